/-
  The turns of 'Round': the loop over turns, told by a plain function, for one to four instances.
-/
import Derived.Test.YtddhljigbchemaaGreatDoorDraw
namespace Go.Proofs.YtddhljigbchemaaGreatDoor
open Go.Ev Go.RowKit

def SR : SC := ⟨idn, fun _ _ _ => none, false, true⟩
theorem SR_ok : SR.cfg.OK Tryz.prog := none_ok.cfg

/-- All numbers after the weights are added. -/
def bump : List Int → List Int → List Int
  | a :: al, w :: ws => IntKind.i64.wrap (a + w) :: bump al ws
  | _, _ => []
def bestOf : List Int → Nat → Nat → Int → Nat
  | [], _, b, _ => b
  | x :: xs, i, b, v => cond (decide (x > v)) (bestOf xs (i + 1) i x) (bestOf xs (i + 1) b v)
/-- The first of the greatest. -/
def best : List Int → Nat
  | [] => 0
  | x :: xs => bestOf xs 1 0 x
/-- What a turn leaves. -/
def left (ws : List Int) (sum : Int) (al : List Int) : List Int := (bump al ws).set (best (bump al ws)) (IntKind.i64.wrap ((bump al ws).getD (best (bump al ws)) 0 - sum))
/-- Who has the first turns. -/
def turns (ws : List Int) (sum : Int) : Nat → List Int → List Nat
  | 0, _ => []
  | r + 1, al => best (bump al ws) :: turns ws sum r (left ws sum al)
def keyV (ks : List ByteArray) (b : Nat) : Value := .string (ks.getD b ⟨#[]⟩)

theorem pick_t {b : Bool} {X Y : Prop} (h : b = true) (x : X) : cond b X Y := by rw [h]; exact x
theorem pick_f {b : Bool} {X Y : Prop} (h : b = false) (y : Y) : cond b X Y := by rw [h]; exact y
theorem ble_ss (j : Nat) : (j + 1).ble j = false := by
  cases h : (j + 1).ble j with
  | false => rfl
  | true => rw [Nat.ble_eq] at h; omega
theorem ble_big (j : Nat) (h : j ≤ 4000) : ((j + 1).ble 9223372036854775807 && ((j + 1) * 16).ble 140737488355328) = true := by
  rw [Bool.and_eq_true, Nat.ble_eq, Nat.ble_eq]; omega
theorem ble_len {ss : List Value} {j : Nat} (h : ss.length = j) : ((0 + j * 1).ble (Array.mk ss).size && true && true) = true := by
  have : (0 + j * 1).ble (Array.mk ss).size = true := by rw [Nat.ble_eq]; show 0 + j * 1 ≤ ss.length; omega
  rw [this]; rfl
theorem take_ok {ss : List Value} {j : Nat} (h : ss.length = j) : List.take (j * 1) (List.drop 0 (Array.mk ss).toList) = ss := by
  rw [Nat.mul_one, List.drop_zero, ← h]; exact List.take_length
theorem nn_app {ss : List Value} {t : TypeId} (hp : ∀ v ∈ ss, p1 v = true) (k : ByteArray) : NoNames (.cells ⟨ss ++ [.string k]⟩ t (0, 0)) := by
  intro v hv
  rcases List.mem_append.1 hv with q | q
  · exact hp v q
  · rw [List.mem_singleton.1 q]; rfl
theorem p1_app {ss : List Value} (hp : ∀ v ∈ ss, p1 v = true) (k : ByteArray) : ∀ v ∈ ss ++ [.string k], p1 v = true := by
  intro v hv
  rcases List.mem_append.1 hv with q | q
  · exact hp v q
  · rw [List.mem_singleton.1 q]; rfl

section
variable {F : Nat → List Value → AH → (AExit → List Value → AH → Prop) → Prop} {K : AExit → List Value → AH → Prop} {k1 : ByteArray} {w1 sum many : Int}
theorem later1
    (hF : ∀ (n : Nat) (a1 i : Int) (ss : List Value) (j : Nat), F (n + 1) [fz ⟨[.agg ⟨[.string k1, .int .i64 w1]⟩]⟩, .slice (some ⟨0, 0, none⟩) 1 1, .int .i64 sum, .slice (some ⟨1, 0, none⟩) j j, .int .i64 many, .int .i64 i] ⟨2, 2, [(0, .cells ⟨[.int .i64 a1]⟩ 3), (1, .cells ⟨ss⟩ 9)]⟩ K =
    bif decide (i < many) then
      bif decide (IntKind.i64.wrap (a1 + w1) > IntKind.i64.wrap (a1 + w1)) then False
      else
        bif (j + 1).ble j then False
        else
          bif (j + 1).ble 9223372036854775807 && ((j + 1) * 16).ble 140737488355328 then
            bif (0 + j * 1).ble (Array.mk ss).size && true && true then
              NoNames
                  (Obj.cells { toList := List.take (j * 1) (List.drop 0 (Array.mk ss).toList) ++ [Value.string k1] } 9
                    (0, 0)) ∧
                (fun v g => F n v g K)
                  [Value.func (Fn.yield 0)
                      { toList := [Value.agg { toList := [Value.string k1, Value.int IntKind.i64 w1] }] } { toList := [] },
                    Value.slice (some { block := 0, off := 0 }) 1 1, Value.int IntKind.i64 sum,
                    Value.slice (some { block := 1, off := 0 }) (j + 1) (j + 1), Value.int IntKind.i64 many,
                    Value.int IntKind.i64 (IntKind.i64.wrap (i + 1))]
                  { next := 2, low := 2,
                    blocks :=
                      [(0,
                          Obj.cells
                            { toList := [Value.int IntKind.i64 (IntKind.i64.wrap (IntKind.i64.wrap (a1 + w1) - sum))] } 3
                            (0, 0)),
                        (1,
                          Obj.cells
                            { toList := List.take (j * 1) (List.drop 0 (Array.mk ss).toList) ++ [Value.string k1] } 9
                            (0, 0))] }
            else False
          else False
    else
      NoNames (Obj.cells { toList := ss } 9 (0, 0)) ∧
        K (AExit.exit 0) [Value.slice (some { block := 0, off := 0 }) j j]
          { next := 1, low := 1, blocks := [(0, Obj.cells { toList := ss } 9 (0, 0))] })
    (hm : many ≤ 2000) :
    ∀ (r : Nat) (a1 i : Int) (ss : List Value) (j : Nat), i + r = many → 0 ≤ i → ss.length = j → j + r ≤ 4000 → (∀ v ∈ ss, p1 v = true) →
      K (.exit 0) [.slice (some ⟨0, 0, none⟩) (j + r) (j + r)] ⟨1, 1, [(0, .cells ⟨ss ++ (turns [w1] sum r [a1]).map (keyV [k1])⟩ 9)]⟩ →
      F (r + 1) [fz ⟨[.agg ⟨[.string k1, .int .i64 w1]⟩]⟩, .slice (some ⟨0, 0, none⟩) 1 1, .int .i64 sum, .slice (some ⟨1, 0, none⟩) j j, .int .i64 many, .int .i64 i] ⟨2, 2, [(0, .cells ⟨[.int .i64 a1]⟩ 3), (1, .cells ⟨ss⟩ 9)]⟩ K := by
  intro r
  induction r with
  | zero =>
    intro a1 i ss j h1 h2 h3 h4 h5 h6
    rw [hF]
    refine pick_f (by simp; omega) ⟨h5, ?_⟩
    simpa [turns] using h6
  | succ r ih =>
    intro a1 i ss j h1 h2 h3 h4 h5 h6
    rw [hF]
    refine pick_t (by simp; omega) (cut_mk (by simp) ?_)
    · refine cut_mk (ble_ss j) (need_mk (ble_big j (by omega)) (need_mk (ble_len h3) ?_))
      rw [take_ok h3]
      refine ⟨nn_app h5 k1, ?_⟩
      rw [wrap_id (i + 1) (by omega) (by omega)]
      refine ih _ (i + 1) (ss ++ [.string k1]) (j + 1) (by omega) (by omega) (by simp [h3]) (by omega) (p1_app h5 k1) ?_
      have e : turns [w1] sum (r + 1) [a1] = 0 :: turns [w1] sum r [IntKind.i64.wrap (IntKind.i64.wrap (a1 + w1) - sum)] := by simp only [turns, left, bump, best, bestOf, cond_true, cond_false, List.set, List.getD_cons_zero, List.getD_cons_succ]
      rw [e] at h6
      have e2 : j + (r + 1) = j + 1 + r := by omega
      rw [e2] at h6
      rw [List.append_assoc]
      exact h6
theorem first1
    (hF : ∀ (n : Nat) (a1 i : Int) (ss : List Value) (j : Nat), F (n + 1) [fz ⟨[.agg ⟨[.string k1, .int .i64 w1]⟩]⟩, .slice (some ⟨0, 0, none⟩) 1 1, .int .i64 sum, .slice (some ⟨1, 0, none⟩) j j, .int .i64 many, .int .i64 i] ⟨2, 2, [(0, .cells ⟨[.int .i64 a1]⟩ 3), (1, .cells ⟨ss⟩ 9)]⟩ K =
    bif decide (i < many) then
      bif decide (IntKind.i64.wrap (a1 + w1) > IntKind.i64.wrap (a1 + w1)) then False
      else
        bif (j + 1).ble j then False
        else
          bif (j + 1).ble 9223372036854775807 && ((j + 1) * 16).ble 140737488355328 then
            bif (0 + j * 1).ble (Array.mk ss).size && true && true then
              NoNames
                  (Obj.cells { toList := List.take (j * 1) (List.drop 0 (Array.mk ss).toList) ++ [Value.string k1] } 9
                    (0, 0)) ∧
                (fun v g => F n v g K)
                  [Value.func (Fn.yield 0)
                      { toList := [Value.agg { toList := [Value.string k1, Value.int IntKind.i64 w1] }] } { toList := [] },
                    Value.slice (some { block := 0, off := 0 }) 1 1, Value.int IntKind.i64 sum,
                    Value.slice (some { block := 1, off := 0 }) (j + 1) (j + 1), Value.int IntKind.i64 many,
                    Value.int IntKind.i64 (IntKind.i64.wrap (i + 1))]
                  { next := 2, low := 2,
                    blocks :=
                      [(0,
                          Obj.cells
                            { toList := [Value.int IntKind.i64 (IntKind.i64.wrap (IntKind.i64.wrap (a1 + w1) - sum))] } 3
                            (0, 0)),
                        (1,
                          Obj.cells
                            { toList := List.take (j * 1) (List.drop 0 (Array.mk ss).toList) ++ [Value.string k1] } 9
                            (0, 0))] }
            else False
          else False
    else
      NoNames (Obj.cells { toList := ss } 9 (0, 0)) ∧
        K (AExit.exit 0) [Value.slice (some { block := 0, off := 0 }) j j]
          { next := 1, low := 1, blocks := [(0, Obj.cells { toList := ss } 9 (0, 0))] })
    (hA : ∀ (n : Nat) (a1 i : Int), F (n + 1) [fz ⟨[.agg ⟨[.string k1, .int .i64 w1]⟩]⟩, .slice (some ⟨0, 0, none⟩) 1 1, .int .i64 sum, .slice none 0 0, .int .i64 many, .int .i64 i] ⟨1, 1, [(0, .cells ⟨[.int .i64 a1]⟩ 3)]⟩ K =
    bif decide (i < many) then
      bif decide (IntKind.i64.wrap (a1 + w1) > IntKind.i64.wrap (a1 + w1)) then False
      else
        NoNames (Obj.cells { toList := [Value.string k1] } 9 (0, 0)) ∧
          (fun v g => F n v g K)
            [Value.func (Fn.yield 0) { toList := [Value.agg { toList := [Value.string k1, Value.int IntKind.i64 w1] }] }
                { toList := [] },
              Value.slice (some { block := 0, off := 0 }) 1 1, Value.int IntKind.i64 sum,
              Value.slice (some { block := 1, off := 0 }) 1 1, Value.int IntKind.i64 many,
              Value.int IntKind.i64 (IntKind.i64.wrap (i + 1))]
            { next := 2, low := 2,
              blocks :=
                [(0,
                    Obj.cells { toList := [Value.int IntKind.i64 (IntKind.i64.wrap (IntKind.i64.wrap (a1 + w1) - sum))] } 3
                      (0, 0)),
                  (1, Obj.cells { toList := [Value.string k1] } 9 (0, 0))] }
    else K (AExit.exit 0) [Value.slice none 0 0] { next := 0, low := 0, blocks := [] })
    (hm : many ≤ 2000) :
    ∀ (r : Nat) (a1 i : Int), i + (r + 1) = many → 0 ≤ i → r ≤ 2000 →
      K (.exit 0) [.slice (some ⟨0, 0, none⟩) (r + 1) (r + 1)] ⟨1, 1, [(0, .cells ⟨(turns [w1] sum (r + 1) [a1]).map (keyV [k1])⟩ 9)]⟩ →
      F (r + 2) [fz ⟨[.agg ⟨[.string k1, .int .i64 w1]⟩]⟩, .slice (some ⟨0, 0, none⟩) 1 1, .int .i64 sum, .slice none 0 0, .int .i64 many, .int .i64 i] ⟨1, 1, [(0, .cells ⟨[.int .i64 a1]⟩ 3)]⟩ K := by
  intro r a1 i h1 h2 h3 h6
  rw [hA]
  refine pick_t (by simp; omega) (cut_mk (by simp) ?_)
  · refine ⟨(nn_app (ss := []) (fun _ q => (by cases q)) k1), ?_⟩
    rw [wrap_id (i + 1) (by omega) (by omega)]
    refine later1 hF hm r _ (i + 1) [.string k1] 1 (by omega) (by omega) rfl (by omega) (fun v q => by rw [List.mem_singleton.1 q]; rfl) ?_
    have e : turns [w1] sum (r + 1) [a1] = 0 :: turns [w1] sum r [IntKind.i64.wrap (IntKind.i64.wrap (a1 + w1) - sum)] := by simp only [turns, left, bump, best, bestOf, cond_true, cond_false, List.set, List.getD_cons_zero, List.getD_cons_succ]
    rw [e] at h6
    have e2 : r + 1 = 1 + r := by omega
    rw [e2] at h6
    exact h6
end

section
variable {F : Nat → List Value → AH → (AExit → List Value → AH → Prop) → Prop} {K : AExit → List Value → AH → Prop} {k1 k2 : ByteArray} {w1 w2 sum many : Int}
theorem later2
    (hF : ∀ (n : Nat) (a1 a2 i : Int) (ss : List Value) (j : Nat), F (n + 1) [fz ⟨[.agg ⟨[.string k1, .int .i64 w1]⟩, .agg ⟨[.string k2, .int .i64 w2]⟩]⟩, .slice (some ⟨0, 0, none⟩) 2 2, .int .i64 sum, .slice (some ⟨1, 0, none⟩) j j, .int .i64 many, .int .i64 i] ⟨2, 2, [(0, .cells ⟨[.int .i64 a1, .int .i64 a2]⟩ 3), (1, .cells ⟨ss⟩ 9)]⟩ K =
    bif decide (i < many) then
      bif decide (IntKind.i64.wrap (a1 + w1) > IntKind.i64.wrap (a1 + w1)) then False
      else
        bif decide (IntKind.i64.wrap (a2 + w2) > IntKind.i64.wrap (a1 + w1)) then
          bif (j + 1).ble j then False
          else
            bif (j + 1).ble 9223372036854775807 && ((j + 1) * 16).ble 140737488355328 then
              bif (0 + j * 1).ble (Array.mk ss).size && true && true then
                NoNames
                    (Obj.cells { toList := List.take (j * 1) (List.drop 0 (Array.mk ss).toList) ++ [Value.string k2] } 9
                      (0, 0)) ∧
                  (fun v g => F n v g K)
                    [Value.func (Fn.yield 0)
                        {
                          toList :=
                            [Value.agg { toList := [Value.string k1, Value.int IntKind.i64 w1] },
                              Value.agg { toList := [Value.string k2, Value.int IntKind.i64 w2] }] }
                        { toList := [] },
                      Value.slice (some { block := 0, off := 0 }) 2 2, Value.int IntKind.i64 sum,
                      Value.slice (some { block := 1, off := 0 }) (j + 1) (j + 1), Value.int IntKind.i64 many,
                      Value.int IntKind.i64 (IntKind.i64.wrap (i + 1))]
                    { next := 2, low := 2,
                      blocks :=
                        [(0,
                            Obj.cells
                              {
                                toList :=
                                  [Value.int IntKind.i64 (IntKind.i64.wrap (a1 + w1)),
                                    Value.int IntKind.i64 (IntKind.i64.wrap (IntKind.i64.wrap (a2 + w2) - sum))] }
                              3 (0, 0)),
                          (1,
                            Obj.cells
                              { toList := List.take (j * 1) (List.drop 0 (Array.mk ss).toList) ++ [Value.string k2] } 9
                              (0, 0))] }
              else False
            else False
        else
          bif (j + 1).ble j then False
          else
            bif (j + 1).ble 9223372036854775807 && ((j + 1) * 16).ble 140737488355328 then
              bif (0 + j * 1).ble (Array.mk ss).size && true && true then
                NoNames
                    (Obj.cells { toList := List.take (j * 1) (List.drop 0 (Array.mk ss).toList) ++ [Value.string k1] } 9
                      (0, 0)) ∧
                  (fun v g => F n v g K)
                    [Value.func (Fn.yield 0)
                        {
                          toList :=
                            [Value.agg { toList := [Value.string k1, Value.int IntKind.i64 w1] },
                              Value.agg { toList := [Value.string k2, Value.int IntKind.i64 w2] }] }
                        { toList := [] },
                      Value.slice (some { block := 0, off := 0 }) 2 2, Value.int IntKind.i64 sum,
                      Value.slice (some { block := 1, off := 0 }) (j + 1) (j + 1), Value.int IntKind.i64 many,
                      Value.int IntKind.i64 (IntKind.i64.wrap (i + 1))]
                    { next := 2, low := 2,
                      blocks :=
                        [(0,
                            Obj.cells
                              {
                                toList :=
                                  [Value.int IntKind.i64 (IntKind.i64.wrap (IntKind.i64.wrap (a1 + w1) - sum)),
                                    Value.int IntKind.i64 (IntKind.i64.wrap (a2 + w2))] }
                              3 (0, 0)),
                          (1,
                            Obj.cells
                              { toList := List.take (j * 1) (List.drop 0 (Array.mk ss).toList) ++ [Value.string k1] } 9
                              (0, 0))] }
              else False
            else False
    else
      NoNames (Obj.cells { toList := ss } 9 (0, 0)) ∧
        K (AExit.exit 0) [Value.slice (some { block := 0, off := 0 }) j j]
          { next := 1, low := 1, blocks := [(0, Obj.cells { toList := ss } 9 (0, 0))] })
    (hm : many ≤ 2000) :
    ∀ (r : Nat) (a1 a2 i : Int) (ss : List Value) (j : Nat), i + r = many → 0 ≤ i → ss.length = j → j + r ≤ 4000 → (∀ v ∈ ss, p1 v = true) →
      K (.exit 0) [.slice (some ⟨0, 0, none⟩) (j + r) (j + r)] ⟨1, 1, [(0, .cells ⟨ss ++ (turns [w1, w2] sum r [a1, a2]).map (keyV [k1, k2])⟩ 9)]⟩ →
      F (r + 1) [fz ⟨[.agg ⟨[.string k1, .int .i64 w1]⟩, .agg ⟨[.string k2, .int .i64 w2]⟩]⟩, .slice (some ⟨0, 0, none⟩) 2 2, .int .i64 sum, .slice (some ⟨1, 0, none⟩) j j, .int .i64 many, .int .i64 i] ⟨2, 2, [(0, .cells ⟨[.int .i64 a1, .int .i64 a2]⟩ 3), (1, .cells ⟨ss⟩ 9)]⟩ K := by
  intro r
  induction r with
  | zero =>
    intro a1 a2 i ss j h1 h2 h3 h4 h5 h6
    rw [hF]
    refine pick_f (by simp; omega) ⟨h5, ?_⟩
    simpa [turns] using h6
  | succ r ih =>
    intro a1 a2 i ss j h1 h2 h3 h4 h5 h6
    rw [hF]
    refine pick_t (by simp; omega) (cut_mk (by simp) ?_)
    refine cond_mk (fun c2 => ?_) (fun c2 => ?_)
    · refine cut_mk (ble_ss j) (need_mk (ble_big j (by omega)) (need_mk (ble_len h3) ?_))
      rw [take_ok h3]
      refine ⟨nn_app h5 k2, ?_⟩
      rw [wrap_id (i + 1) (by omega) (by omega)]
      refine ih _ _ (i + 1) (ss ++ [.string k2]) (j + 1) (by omega) (by omega) (by simp [h3]) (by omega) (p1_app h5 k2) ?_
      have e : turns [w1, w2] sum (r + 1) [a1, a2] = 1 :: turns [w1, w2] sum r [IntKind.i64.wrap (a1 + w1), IntKind.i64.wrap (IntKind.i64.wrap (a2 + w2) - sum)] := by simp only [turns, left, bump, best, bestOf, c2, cond_true, cond_false, List.set, List.getD_cons_zero, List.getD_cons_succ]
      rw [e] at h6
      have e2 : j + (r + 1) = j + 1 + r := by omega
      rw [e2] at h6
      rw [List.append_assoc]
      exact h6
    · refine cut_mk (ble_ss j) (need_mk (ble_big j (by omega)) (need_mk (ble_len h3) ?_))
      rw [take_ok h3]
      refine ⟨nn_app h5 k1, ?_⟩
      rw [wrap_id (i + 1) (by omega) (by omega)]
      refine ih _ _ (i + 1) (ss ++ [.string k1]) (j + 1) (by omega) (by omega) (by simp [h3]) (by omega) (p1_app h5 k1) ?_
      have e : turns [w1, w2] sum (r + 1) [a1, a2] = 0 :: turns [w1, w2] sum r [IntKind.i64.wrap (IntKind.i64.wrap (a1 + w1) - sum), IntKind.i64.wrap (a2 + w2)] := by simp only [turns, left, bump, best, bestOf, c2, cond_true, cond_false, List.set, List.getD_cons_zero, List.getD_cons_succ]
      rw [e] at h6
      have e2 : j + (r + 1) = j + 1 + r := by omega
      rw [e2] at h6
      rw [List.append_assoc]
      exact h6
theorem first2
    (hF : ∀ (n : Nat) (a1 a2 i : Int) (ss : List Value) (j : Nat), F (n + 1) [fz ⟨[.agg ⟨[.string k1, .int .i64 w1]⟩, .agg ⟨[.string k2, .int .i64 w2]⟩]⟩, .slice (some ⟨0, 0, none⟩) 2 2, .int .i64 sum, .slice (some ⟨1, 0, none⟩) j j, .int .i64 many, .int .i64 i] ⟨2, 2, [(0, .cells ⟨[.int .i64 a1, .int .i64 a2]⟩ 3), (1, .cells ⟨ss⟩ 9)]⟩ K =
    bif decide (i < many) then
      bif decide (IntKind.i64.wrap (a1 + w1) > IntKind.i64.wrap (a1 + w1)) then False
      else
        bif decide (IntKind.i64.wrap (a2 + w2) > IntKind.i64.wrap (a1 + w1)) then
          bif (j + 1).ble j then False
          else
            bif (j + 1).ble 9223372036854775807 && ((j + 1) * 16).ble 140737488355328 then
              bif (0 + j * 1).ble (Array.mk ss).size && true && true then
                NoNames
                    (Obj.cells { toList := List.take (j * 1) (List.drop 0 (Array.mk ss).toList) ++ [Value.string k2] } 9
                      (0, 0)) ∧
                  (fun v g => F n v g K)
                    [Value.func (Fn.yield 0)
                        {
                          toList :=
                            [Value.agg { toList := [Value.string k1, Value.int IntKind.i64 w1] },
                              Value.agg { toList := [Value.string k2, Value.int IntKind.i64 w2] }] }
                        { toList := [] },
                      Value.slice (some { block := 0, off := 0 }) 2 2, Value.int IntKind.i64 sum,
                      Value.slice (some { block := 1, off := 0 }) (j + 1) (j + 1), Value.int IntKind.i64 many,
                      Value.int IntKind.i64 (IntKind.i64.wrap (i + 1))]
                    { next := 2, low := 2,
                      blocks :=
                        [(0,
                            Obj.cells
                              {
                                toList :=
                                  [Value.int IntKind.i64 (IntKind.i64.wrap (a1 + w1)),
                                    Value.int IntKind.i64 (IntKind.i64.wrap (IntKind.i64.wrap (a2 + w2) - sum))] }
                              3 (0, 0)),
                          (1,
                            Obj.cells
                              { toList := List.take (j * 1) (List.drop 0 (Array.mk ss).toList) ++ [Value.string k2] } 9
                              (0, 0))] }
              else False
            else False
        else
          bif (j + 1).ble j then False
          else
            bif (j + 1).ble 9223372036854775807 && ((j + 1) * 16).ble 140737488355328 then
              bif (0 + j * 1).ble (Array.mk ss).size && true && true then
                NoNames
                    (Obj.cells { toList := List.take (j * 1) (List.drop 0 (Array.mk ss).toList) ++ [Value.string k1] } 9
                      (0, 0)) ∧
                  (fun v g => F n v g K)
                    [Value.func (Fn.yield 0)
                        {
                          toList :=
                            [Value.agg { toList := [Value.string k1, Value.int IntKind.i64 w1] },
                              Value.agg { toList := [Value.string k2, Value.int IntKind.i64 w2] }] }
                        { toList := [] },
                      Value.slice (some { block := 0, off := 0 }) 2 2, Value.int IntKind.i64 sum,
                      Value.slice (some { block := 1, off := 0 }) (j + 1) (j + 1), Value.int IntKind.i64 many,
                      Value.int IntKind.i64 (IntKind.i64.wrap (i + 1))]
                    { next := 2, low := 2,
                      blocks :=
                        [(0,
                            Obj.cells
                              {
                                toList :=
                                  [Value.int IntKind.i64 (IntKind.i64.wrap (IntKind.i64.wrap (a1 + w1) - sum)),
                                    Value.int IntKind.i64 (IntKind.i64.wrap (a2 + w2))] }
                              3 (0, 0)),
                          (1,
                            Obj.cells
                              { toList := List.take (j * 1) (List.drop 0 (Array.mk ss).toList) ++ [Value.string k1] } 9
                              (0, 0))] }
              else False
            else False
    else
      NoNames (Obj.cells { toList := ss } 9 (0, 0)) ∧
        K (AExit.exit 0) [Value.slice (some { block := 0, off := 0 }) j j]
          { next := 1, low := 1, blocks := [(0, Obj.cells { toList := ss } 9 (0, 0))] })
    (hA : ∀ (n : Nat) (a1 a2 i : Int), F (n + 1) [fz ⟨[.agg ⟨[.string k1, .int .i64 w1]⟩, .agg ⟨[.string k2, .int .i64 w2]⟩]⟩, .slice (some ⟨0, 0, none⟩) 2 2, .int .i64 sum, .slice none 0 0, .int .i64 many, .int .i64 i] ⟨1, 1, [(0, .cells ⟨[.int .i64 a1, .int .i64 a2]⟩ 3)]⟩ K =
    bif decide (i < many) then
      bif decide (IntKind.i64.wrap (a1 + w1) > IntKind.i64.wrap (a1 + w1)) then False
      else
        bif decide (IntKind.i64.wrap (a2 + w2) > IntKind.i64.wrap (a1 + w1)) then
          NoNames (Obj.cells { toList := [Value.string k2] } 9 (0, 0)) ∧
            (fun v g => F n v g K)
              [Value.func (Fn.yield 0)
                  {
                    toList :=
                      [Value.agg { toList := [Value.string k1, Value.int IntKind.i64 w1] },
                        Value.agg { toList := [Value.string k2, Value.int IntKind.i64 w2] }] }
                  { toList := [] },
                Value.slice (some { block := 0, off := 0 }) 2 2, Value.int IntKind.i64 sum,
                Value.slice (some { block := 1, off := 0 }) 1 1, Value.int IntKind.i64 many,
                Value.int IntKind.i64 (IntKind.i64.wrap (i + 1))]
              { next := 2, low := 2,
                blocks :=
                  [(0,
                      Obj.cells
                        {
                          toList :=
                            [Value.int IntKind.i64 (IntKind.i64.wrap (a1 + w1)),
                              Value.int IntKind.i64 (IntKind.i64.wrap (IntKind.i64.wrap (a2 + w2) - sum))] }
                        3 (0, 0)),
                    (1, Obj.cells { toList := [Value.string k2] } 9 (0, 0))] }
        else
          NoNames (Obj.cells { toList := [Value.string k1] } 9 (0, 0)) ∧
            (fun v g => F n v g K)
              [Value.func (Fn.yield 0)
                  {
                    toList :=
                      [Value.agg { toList := [Value.string k1, Value.int IntKind.i64 w1] },
                        Value.agg { toList := [Value.string k2, Value.int IntKind.i64 w2] }] }
                  { toList := [] },
                Value.slice (some { block := 0, off := 0 }) 2 2, Value.int IntKind.i64 sum,
                Value.slice (some { block := 1, off := 0 }) 1 1, Value.int IntKind.i64 many,
                Value.int IntKind.i64 (IntKind.i64.wrap (i + 1))]
              { next := 2, low := 2,
                blocks :=
                  [(0,
                      Obj.cells
                        {
                          toList :=
                            [Value.int IntKind.i64 (IntKind.i64.wrap (IntKind.i64.wrap (a1 + w1) - sum)),
                              Value.int IntKind.i64 (IntKind.i64.wrap (a2 + w2))] }
                        3 (0, 0)),
                    (1, Obj.cells { toList := [Value.string k1] } 9 (0, 0))] }
    else K (AExit.exit 0) [Value.slice none 0 0] { next := 0, low := 0, blocks := [] })
    (hm : many ≤ 2000) :
    ∀ (r : Nat) (a1 a2 i : Int), i + (r + 1) = many → 0 ≤ i → r ≤ 2000 →
      K (.exit 0) [.slice (some ⟨0, 0, none⟩) (r + 1) (r + 1)] ⟨1, 1, [(0, .cells ⟨(turns [w1, w2] sum (r + 1) [a1, a2]).map (keyV [k1, k2])⟩ 9)]⟩ →
      F (r + 2) [fz ⟨[.agg ⟨[.string k1, .int .i64 w1]⟩, .agg ⟨[.string k2, .int .i64 w2]⟩]⟩, .slice (some ⟨0, 0, none⟩) 2 2, .int .i64 sum, .slice none 0 0, .int .i64 many, .int .i64 i] ⟨1, 1, [(0, .cells ⟨[.int .i64 a1, .int .i64 a2]⟩ 3)]⟩ K := by
  intro r a1 a2 i h1 h2 h3 h6
  rw [hA]
  refine pick_t (by simp; omega) (cut_mk (by simp) ?_)
  refine cond_mk (fun c2 => ?_) (fun c2 => ?_)
  · refine ⟨(nn_app (ss := []) (fun _ q => (by cases q)) k2), ?_⟩
    rw [wrap_id (i + 1) (by omega) (by omega)]
    refine later2 hF hm r _ _ (i + 1) [.string k2] 1 (by omega) (by omega) rfl (by omega) (fun v q => by rw [List.mem_singleton.1 q]; rfl) ?_
    have e : turns [w1, w2] sum (r + 1) [a1, a2] = 1 :: turns [w1, w2] sum r [IntKind.i64.wrap (a1 + w1), IntKind.i64.wrap (IntKind.i64.wrap (a2 + w2) - sum)] := by simp only [turns, left, bump, best, bestOf, c2, cond_true, cond_false, List.set, List.getD_cons_zero, List.getD_cons_succ]
    rw [e] at h6
    have e2 : r + 1 = 1 + r := by omega
    rw [e2] at h6
    exact h6
  · refine ⟨(nn_app (ss := []) (fun _ q => (by cases q)) k1), ?_⟩
    rw [wrap_id (i + 1) (by omega) (by omega)]
    refine later2 hF hm r _ _ (i + 1) [.string k1] 1 (by omega) (by omega) rfl (by omega) (fun v q => by rw [List.mem_singleton.1 q]; rfl) ?_
    have e : turns [w1, w2] sum (r + 1) [a1, a2] = 0 :: turns [w1, w2] sum r [IntKind.i64.wrap (IntKind.i64.wrap (a1 + w1) - sum), IntKind.i64.wrap (a2 + w2)] := by simp only [turns, left, bump, best, bestOf, c2, cond_true, cond_false, List.set, List.getD_cons_zero, List.getD_cons_succ]
    rw [e] at h6
    have e2 : r + 1 = 1 + r := by omega
    rw [e2] at h6
    exact h6
end

section
variable {F : Nat → List Value → AH → (AExit → List Value → AH → Prop) → Prop} {K : AExit → List Value → AH → Prop} {k1 k2 k3 : ByteArray} {w1 w2 w3 sum many : Int}
theorem later3
    (hF : ∀ (n : Nat) (a1 a2 a3 i : Int) (ss : List Value) (j : Nat), F (n + 1) [fz ⟨[.agg ⟨[.string k1, .int .i64 w1]⟩, .agg ⟨[.string k2, .int .i64 w2]⟩, .agg ⟨[.string k3, .int .i64 w3]⟩]⟩, .slice (some ⟨0, 0, none⟩) 3 3, .int .i64 sum, .slice (some ⟨1, 0, none⟩) j j, .int .i64 many, .int .i64 i] ⟨2, 2, [(0, .cells ⟨[.int .i64 a1, .int .i64 a2, .int .i64 a3]⟩ 3), (1, .cells ⟨ss⟩ 9)]⟩ K =
    bif decide (i < many) then
      bif decide (IntKind.i64.wrap (a1 + w1) > IntKind.i64.wrap (a1 + w1)) then False
      else
        bif decide (IntKind.i64.wrap (a2 + w2) > IntKind.i64.wrap (a1 + w1)) then
          bif decide (IntKind.i64.wrap (a3 + w3) > IntKind.i64.wrap (a2 + w2)) then
            bif (j + 1).ble j then False
            else
              bif (j + 1).ble 9223372036854775807 && ((j + 1) * 16).ble 140737488355328 then
                bif (0 + j * 1).ble (Array.mk ss).size && true && true then
                  NoNames
                      (Obj.cells { toList := List.take (j * 1) (List.drop 0 (Array.mk ss).toList) ++ [Value.string k3] }
                        9 (0, 0)) ∧
                    (fun v g => F n v g K)
                      [Value.func (Fn.yield 0)
                          {
                            toList :=
                              [Value.agg { toList := [Value.string k1, Value.int IntKind.i64 w1] },
                                Value.agg { toList := [Value.string k2, Value.int IntKind.i64 w2] },
                                Value.agg { toList := [Value.string k3, Value.int IntKind.i64 w3] }] }
                          { toList := [] },
                        Value.slice (some { block := 0, off := 0 }) 3 3, Value.int IntKind.i64 sum,
                        Value.slice (some { block := 1, off := 0 }) (j + 1) (j + 1), Value.int IntKind.i64 many,
                        Value.int IntKind.i64 (IntKind.i64.wrap (i + 1))]
                      { next := 2, low := 2,
                        blocks :=
                          [(0,
                              Obj.cells
                                {
                                  toList :=
                                    [Value.int IntKind.i64 (IntKind.i64.wrap (a1 + w1)),
                                      Value.int IntKind.i64 (IntKind.i64.wrap (a2 + w2)),
                                      Value.int IntKind.i64 (IntKind.i64.wrap (IntKind.i64.wrap (a3 + w3) - sum))] }
                                3 (0, 0)),
                            (1,
                              Obj.cells
                                { toList := List.take (j * 1) (List.drop 0 (Array.mk ss).toList) ++ [Value.string k3] } 9
                                (0, 0))] }
                else False
              else False
          else
            bif (j + 1).ble j then False
            else
              bif (j + 1).ble 9223372036854775807 && ((j + 1) * 16).ble 140737488355328 then
                bif (0 + j * 1).ble (Array.mk ss).size && true && true then
                  NoNames
                      (Obj.cells { toList := List.take (j * 1) (List.drop 0 (Array.mk ss).toList) ++ [Value.string k2] }
                        9 (0, 0)) ∧
                    (fun v g => F n v g K)
                      [Value.func (Fn.yield 0)
                          {
                            toList :=
                              [Value.agg { toList := [Value.string k1, Value.int IntKind.i64 w1] },
                                Value.agg { toList := [Value.string k2, Value.int IntKind.i64 w2] },
                                Value.agg { toList := [Value.string k3, Value.int IntKind.i64 w3] }] }
                          { toList := [] },
                        Value.slice (some { block := 0, off := 0 }) 3 3, Value.int IntKind.i64 sum,
                        Value.slice (some { block := 1, off := 0 }) (j + 1) (j + 1), Value.int IntKind.i64 many,
                        Value.int IntKind.i64 (IntKind.i64.wrap (i + 1))]
                      { next := 2, low := 2,
                        blocks :=
                          [(0,
                              Obj.cells
                                {
                                  toList :=
                                    [Value.int IntKind.i64 (IntKind.i64.wrap (a1 + w1)),
                                      Value.int IntKind.i64 (IntKind.i64.wrap (IntKind.i64.wrap (a2 + w2) - sum)),
                                      Value.int IntKind.i64 (IntKind.i64.wrap (a3 + w3))] }
                                3 (0, 0)),
                            (1,
                              Obj.cells
                                { toList := List.take (j * 1) (List.drop 0 (Array.mk ss).toList) ++ [Value.string k2] } 9
                                (0, 0))] }
                else False
              else False
        else
          bif decide (IntKind.i64.wrap (a3 + w3) > IntKind.i64.wrap (a1 + w1)) then
            bif (j + 1).ble j then False
            else
              bif (j + 1).ble 9223372036854775807 && ((j + 1) * 16).ble 140737488355328 then
                bif (0 + j * 1).ble (Array.mk ss).size && true && true then
                  NoNames
                      (Obj.cells { toList := List.take (j * 1) (List.drop 0 (Array.mk ss).toList) ++ [Value.string k3] }
                        9 (0, 0)) ∧
                    (fun v g => F n v g K)
                      [Value.func (Fn.yield 0)
                          {
                            toList :=
                              [Value.agg { toList := [Value.string k1, Value.int IntKind.i64 w1] },
                                Value.agg { toList := [Value.string k2, Value.int IntKind.i64 w2] },
                                Value.agg { toList := [Value.string k3, Value.int IntKind.i64 w3] }] }
                          { toList := [] },
                        Value.slice (some { block := 0, off := 0 }) 3 3, Value.int IntKind.i64 sum,
                        Value.slice (some { block := 1, off := 0 }) (j + 1) (j + 1), Value.int IntKind.i64 many,
                        Value.int IntKind.i64 (IntKind.i64.wrap (i + 1))]
                      { next := 2, low := 2,
                        blocks :=
                          [(0,
                              Obj.cells
                                {
                                  toList :=
                                    [Value.int IntKind.i64 (IntKind.i64.wrap (a1 + w1)),
                                      Value.int IntKind.i64 (IntKind.i64.wrap (a2 + w2)),
                                      Value.int IntKind.i64 (IntKind.i64.wrap (IntKind.i64.wrap (a3 + w3) - sum))] }
                                3 (0, 0)),
                            (1,
                              Obj.cells
                                { toList := List.take (j * 1) (List.drop 0 (Array.mk ss).toList) ++ [Value.string k3] } 9
                                (0, 0))] }
                else False
              else False
          else
            bif (j + 1).ble j then False
            else
              bif (j + 1).ble 9223372036854775807 && ((j + 1) * 16).ble 140737488355328 then
                bif (0 + j * 1).ble (Array.mk ss).size && true && true then
                  NoNames
                      (Obj.cells { toList := List.take (j * 1) (List.drop 0 (Array.mk ss).toList) ++ [Value.string k1] }
                        9 (0, 0)) ∧
                    (fun v g => F n v g K)
                      [Value.func (Fn.yield 0)
                          {
                            toList :=
                              [Value.agg { toList := [Value.string k1, Value.int IntKind.i64 w1] },
                                Value.agg { toList := [Value.string k2, Value.int IntKind.i64 w2] },
                                Value.agg { toList := [Value.string k3, Value.int IntKind.i64 w3] }] }
                          { toList := [] },
                        Value.slice (some { block := 0, off := 0 }) 3 3, Value.int IntKind.i64 sum,
                        Value.slice (some { block := 1, off := 0 }) (j + 1) (j + 1), Value.int IntKind.i64 many,
                        Value.int IntKind.i64 (IntKind.i64.wrap (i + 1))]
                      { next := 2, low := 2,
                        blocks :=
                          [(0,
                              Obj.cells
                                {
                                  toList :=
                                    [Value.int IntKind.i64 (IntKind.i64.wrap (IntKind.i64.wrap (a1 + w1) - sum)),
                                      Value.int IntKind.i64 (IntKind.i64.wrap (a2 + w2)),
                                      Value.int IntKind.i64 (IntKind.i64.wrap (a3 + w3))] }
                                3 (0, 0)),
                            (1,
                              Obj.cells
                                { toList := List.take (j * 1) (List.drop 0 (Array.mk ss).toList) ++ [Value.string k1] } 9
                                (0, 0))] }
                else False
              else False
    else
      NoNames (Obj.cells { toList := ss } 9 (0, 0)) ∧
        K (AExit.exit 0) [Value.slice (some { block := 0, off := 0 }) j j]
          { next := 1, low := 1, blocks := [(0, Obj.cells { toList := ss } 9 (0, 0))] })
    (hm : many ≤ 2000) :
    ∀ (r : Nat) (a1 a2 a3 i : Int) (ss : List Value) (j : Nat), i + r = many → 0 ≤ i → ss.length = j → j + r ≤ 4000 → (∀ v ∈ ss, p1 v = true) →
      K (.exit 0) [.slice (some ⟨0, 0, none⟩) (j + r) (j + r)] ⟨1, 1, [(0, .cells ⟨ss ++ (turns [w1, w2, w3] sum r [a1, a2, a3]).map (keyV [k1, k2, k3])⟩ 9)]⟩ →
      F (r + 1) [fz ⟨[.agg ⟨[.string k1, .int .i64 w1]⟩, .agg ⟨[.string k2, .int .i64 w2]⟩, .agg ⟨[.string k3, .int .i64 w3]⟩]⟩, .slice (some ⟨0, 0, none⟩) 3 3, .int .i64 sum, .slice (some ⟨1, 0, none⟩) j j, .int .i64 many, .int .i64 i] ⟨2, 2, [(0, .cells ⟨[.int .i64 a1, .int .i64 a2, .int .i64 a3]⟩ 3), (1, .cells ⟨ss⟩ 9)]⟩ K := by
  intro r
  induction r with
  | zero =>
    intro a1 a2 a3 i ss j h1 h2 h3 h4 h5 h6
    rw [hF]
    refine pick_f (by simp; omega) ⟨h5, ?_⟩
    simpa [turns] using h6
  | succ r ih =>
    intro a1 a2 a3 i ss j h1 h2 h3 h4 h5 h6
    rw [hF]
    refine pick_t (by simp; omega) (cut_mk (by simp) ?_)
    refine cond_mk (fun c2 => cond_mk (fun c3 => ?_) (fun c3 => ?_)) (fun c2 => cond_mk (fun c3 => ?_) (fun c3 => ?_))
    · refine cut_mk (ble_ss j) (need_mk (ble_big j (by omega)) (need_mk (ble_len h3) ?_))
      rw [take_ok h3]
      refine ⟨nn_app h5 k3, ?_⟩
      rw [wrap_id (i + 1) (by omega) (by omega)]
      refine ih _ _ _ (i + 1) (ss ++ [.string k3]) (j + 1) (by omega) (by omega) (by simp [h3]) (by omega) (p1_app h5 k3) ?_
      have e : turns [w1, w2, w3] sum (r + 1) [a1, a2, a3] = 2 :: turns [w1, w2, w3] sum r [IntKind.i64.wrap (a1 + w1), IntKind.i64.wrap (a2 + w2), IntKind.i64.wrap (IntKind.i64.wrap (a3 + w3) - sum)] := by simp only [turns, left, bump, best, bestOf, c2, c3, cond_true, cond_false, List.set, List.getD_cons_zero, List.getD_cons_succ]
      rw [e] at h6
      have e2 : j + (r + 1) = j + 1 + r := by omega
      rw [e2] at h6
      rw [List.append_assoc]
      exact h6
    · refine cut_mk (ble_ss j) (need_mk (ble_big j (by omega)) (need_mk (ble_len h3) ?_))
      rw [take_ok h3]
      refine ⟨nn_app h5 k2, ?_⟩
      rw [wrap_id (i + 1) (by omega) (by omega)]
      refine ih _ _ _ (i + 1) (ss ++ [.string k2]) (j + 1) (by omega) (by omega) (by simp [h3]) (by omega) (p1_app h5 k2) ?_
      have e : turns [w1, w2, w3] sum (r + 1) [a1, a2, a3] = 1 :: turns [w1, w2, w3] sum r [IntKind.i64.wrap (a1 + w1), IntKind.i64.wrap (IntKind.i64.wrap (a2 + w2) - sum), IntKind.i64.wrap (a3 + w3)] := by simp only [turns, left, bump, best, bestOf, c2, c3, cond_true, cond_false, List.set, List.getD_cons_zero, List.getD_cons_succ]
      rw [e] at h6
      have e2 : j + (r + 1) = j + 1 + r := by omega
      rw [e2] at h6
      rw [List.append_assoc]
      exact h6
    · refine cut_mk (ble_ss j) (need_mk (ble_big j (by omega)) (need_mk (ble_len h3) ?_))
      rw [take_ok h3]
      refine ⟨nn_app h5 k3, ?_⟩
      rw [wrap_id (i + 1) (by omega) (by omega)]
      refine ih _ _ _ (i + 1) (ss ++ [.string k3]) (j + 1) (by omega) (by omega) (by simp [h3]) (by omega) (p1_app h5 k3) ?_
      have e : turns [w1, w2, w3] sum (r + 1) [a1, a2, a3] = 2 :: turns [w1, w2, w3] sum r [IntKind.i64.wrap (a1 + w1), IntKind.i64.wrap (a2 + w2), IntKind.i64.wrap (IntKind.i64.wrap (a3 + w3) - sum)] := by simp only [turns, left, bump, best, bestOf, c2, c3, cond_true, cond_false, List.set, List.getD_cons_zero, List.getD_cons_succ]
      rw [e] at h6
      have e2 : j + (r + 1) = j + 1 + r := by omega
      rw [e2] at h6
      rw [List.append_assoc]
      exact h6
    · refine cut_mk (ble_ss j) (need_mk (ble_big j (by omega)) (need_mk (ble_len h3) ?_))
      rw [take_ok h3]
      refine ⟨nn_app h5 k1, ?_⟩
      rw [wrap_id (i + 1) (by omega) (by omega)]
      refine ih _ _ _ (i + 1) (ss ++ [.string k1]) (j + 1) (by omega) (by omega) (by simp [h3]) (by omega) (p1_app h5 k1) ?_
      have e : turns [w1, w2, w3] sum (r + 1) [a1, a2, a3] = 0 :: turns [w1, w2, w3] sum r [IntKind.i64.wrap (IntKind.i64.wrap (a1 + w1) - sum), IntKind.i64.wrap (a2 + w2), IntKind.i64.wrap (a3 + w3)] := by simp only [turns, left, bump, best, bestOf, c2, c3, cond_true, cond_false, List.set, List.getD_cons_zero, List.getD_cons_succ]
      rw [e] at h6
      have e2 : j + (r + 1) = j + 1 + r := by omega
      rw [e2] at h6
      rw [List.append_assoc]
      exact h6
theorem first3
    (hF : ∀ (n : Nat) (a1 a2 a3 i : Int) (ss : List Value) (j : Nat), F (n + 1) [fz ⟨[.agg ⟨[.string k1, .int .i64 w1]⟩, .agg ⟨[.string k2, .int .i64 w2]⟩, .agg ⟨[.string k3, .int .i64 w3]⟩]⟩, .slice (some ⟨0, 0, none⟩) 3 3, .int .i64 sum, .slice (some ⟨1, 0, none⟩) j j, .int .i64 many, .int .i64 i] ⟨2, 2, [(0, .cells ⟨[.int .i64 a1, .int .i64 a2, .int .i64 a3]⟩ 3), (1, .cells ⟨ss⟩ 9)]⟩ K =
    bif decide (i < many) then
      bif decide (IntKind.i64.wrap (a1 + w1) > IntKind.i64.wrap (a1 + w1)) then False
      else
        bif decide (IntKind.i64.wrap (a2 + w2) > IntKind.i64.wrap (a1 + w1)) then
          bif decide (IntKind.i64.wrap (a3 + w3) > IntKind.i64.wrap (a2 + w2)) then
            bif (j + 1).ble j then False
            else
              bif (j + 1).ble 9223372036854775807 && ((j + 1) * 16).ble 140737488355328 then
                bif (0 + j * 1).ble (Array.mk ss).size && true && true then
                  NoNames
                      (Obj.cells { toList := List.take (j * 1) (List.drop 0 (Array.mk ss).toList) ++ [Value.string k3] }
                        9 (0, 0)) ∧
                    (fun v g => F n v g K)
                      [Value.func (Fn.yield 0)
                          {
                            toList :=
                              [Value.agg { toList := [Value.string k1, Value.int IntKind.i64 w1] },
                                Value.agg { toList := [Value.string k2, Value.int IntKind.i64 w2] },
                                Value.agg { toList := [Value.string k3, Value.int IntKind.i64 w3] }] }
                          { toList := [] },
                        Value.slice (some { block := 0, off := 0 }) 3 3, Value.int IntKind.i64 sum,
                        Value.slice (some { block := 1, off := 0 }) (j + 1) (j + 1), Value.int IntKind.i64 many,
                        Value.int IntKind.i64 (IntKind.i64.wrap (i + 1))]
                      { next := 2, low := 2,
                        blocks :=
                          [(0,
                              Obj.cells
                                {
                                  toList :=
                                    [Value.int IntKind.i64 (IntKind.i64.wrap (a1 + w1)),
                                      Value.int IntKind.i64 (IntKind.i64.wrap (a2 + w2)),
                                      Value.int IntKind.i64 (IntKind.i64.wrap (IntKind.i64.wrap (a3 + w3) - sum))] }
                                3 (0, 0)),
                            (1,
                              Obj.cells
                                { toList := List.take (j * 1) (List.drop 0 (Array.mk ss).toList) ++ [Value.string k3] } 9
                                (0, 0))] }
                else False
              else False
          else
            bif (j + 1).ble j then False
            else
              bif (j + 1).ble 9223372036854775807 && ((j + 1) * 16).ble 140737488355328 then
                bif (0 + j * 1).ble (Array.mk ss).size && true && true then
                  NoNames
                      (Obj.cells { toList := List.take (j * 1) (List.drop 0 (Array.mk ss).toList) ++ [Value.string k2] }
                        9 (0, 0)) ∧
                    (fun v g => F n v g K)
                      [Value.func (Fn.yield 0)
                          {
                            toList :=
                              [Value.agg { toList := [Value.string k1, Value.int IntKind.i64 w1] },
                                Value.agg { toList := [Value.string k2, Value.int IntKind.i64 w2] },
                                Value.agg { toList := [Value.string k3, Value.int IntKind.i64 w3] }] }
                          { toList := [] },
                        Value.slice (some { block := 0, off := 0 }) 3 3, Value.int IntKind.i64 sum,
                        Value.slice (some { block := 1, off := 0 }) (j + 1) (j + 1), Value.int IntKind.i64 many,
                        Value.int IntKind.i64 (IntKind.i64.wrap (i + 1))]
                      { next := 2, low := 2,
                        blocks :=
                          [(0,
                              Obj.cells
                                {
                                  toList :=
                                    [Value.int IntKind.i64 (IntKind.i64.wrap (a1 + w1)),
                                      Value.int IntKind.i64 (IntKind.i64.wrap (IntKind.i64.wrap (a2 + w2) - sum)),
                                      Value.int IntKind.i64 (IntKind.i64.wrap (a3 + w3))] }
                                3 (0, 0)),
                            (1,
                              Obj.cells
                                { toList := List.take (j * 1) (List.drop 0 (Array.mk ss).toList) ++ [Value.string k2] } 9
                                (0, 0))] }
                else False
              else False
        else
          bif decide (IntKind.i64.wrap (a3 + w3) > IntKind.i64.wrap (a1 + w1)) then
            bif (j + 1).ble j then False
            else
              bif (j + 1).ble 9223372036854775807 && ((j + 1) * 16).ble 140737488355328 then
                bif (0 + j * 1).ble (Array.mk ss).size && true && true then
                  NoNames
                      (Obj.cells { toList := List.take (j * 1) (List.drop 0 (Array.mk ss).toList) ++ [Value.string k3] }
                        9 (0, 0)) ∧
                    (fun v g => F n v g K)
                      [Value.func (Fn.yield 0)
                          {
                            toList :=
                              [Value.agg { toList := [Value.string k1, Value.int IntKind.i64 w1] },
                                Value.agg { toList := [Value.string k2, Value.int IntKind.i64 w2] },
                                Value.agg { toList := [Value.string k3, Value.int IntKind.i64 w3] }] }
                          { toList := [] },
                        Value.slice (some { block := 0, off := 0 }) 3 3, Value.int IntKind.i64 sum,
                        Value.slice (some { block := 1, off := 0 }) (j + 1) (j + 1), Value.int IntKind.i64 many,
                        Value.int IntKind.i64 (IntKind.i64.wrap (i + 1))]
                      { next := 2, low := 2,
                        blocks :=
                          [(0,
                              Obj.cells
                                {
                                  toList :=
                                    [Value.int IntKind.i64 (IntKind.i64.wrap (a1 + w1)),
                                      Value.int IntKind.i64 (IntKind.i64.wrap (a2 + w2)),
                                      Value.int IntKind.i64 (IntKind.i64.wrap (IntKind.i64.wrap (a3 + w3) - sum))] }
                                3 (0, 0)),
                            (1,
                              Obj.cells
                                { toList := List.take (j * 1) (List.drop 0 (Array.mk ss).toList) ++ [Value.string k3] } 9
                                (0, 0))] }
                else False
              else False
          else
            bif (j + 1).ble j then False
            else
              bif (j + 1).ble 9223372036854775807 && ((j + 1) * 16).ble 140737488355328 then
                bif (0 + j * 1).ble (Array.mk ss).size && true && true then
                  NoNames
                      (Obj.cells { toList := List.take (j * 1) (List.drop 0 (Array.mk ss).toList) ++ [Value.string k1] }
                        9 (0, 0)) ∧
                    (fun v g => F n v g K)
                      [Value.func (Fn.yield 0)
                          {
                            toList :=
                              [Value.agg { toList := [Value.string k1, Value.int IntKind.i64 w1] },
                                Value.agg { toList := [Value.string k2, Value.int IntKind.i64 w2] },
                                Value.agg { toList := [Value.string k3, Value.int IntKind.i64 w3] }] }
                          { toList := [] },
                        Value.slice (some { block := 0, off := 0 }) 3 3, Value.int IntKind.i64 sum,
                        Value.slice (some { block := 1, off := 0 }) (j + 1) (j + 1), Value.int IntKind.i64 many,
                        Value.int IntKind.i64 (IntKind.i64.wrap (i + 1))]
                      { next := 2, low := 2,
                        blocks :=
                          [(0,
                              Obj.cells
                                {
                                  toList :=
                                    [Value.int IntKind.i64 (IntKind.i64.wrap (IntKind.i64.wrap (a1 + w1) - sum)),
                                      Value.int IntKind.i64 (IntKind.i64.wrap (a2 + w2)),
                                      Value.int IntKind.i64 (IntKind.i64.wrap (a3 + w3))] }
                                3 (0, 0)),
                            (1,
                              Obj.cells
                                { toList := List.take (j * 1) (List.drop 0 (Array.mk ss).toList) ++ [Value.string k1] } 9
                                (0, 0))] }
                else False
              else False
    else
      NoNames (Obj.cells { toList := ss } 9 (0, 0)) ∧
        K (AExit.exit 0) [Value.slice (some { block := 0, off := 0 }) j j]
          { next := 1, low := 1, blocks := [(0, Obj.cells { toList := ss } 9 (0, 0))] })
    (hA : ∀ (n : Nat) (a1 a2 a3 i : Int), F (n + 1) [fz ⟨[.agg ⟨[.string k1, .int .i64 w1]⟩, .agg ⟨[.string k2, .int .i64 w2]⟩, .agg ⟨[.string k3, .int .i64 w3]⟩]⟩, .slice (some ⟨0, 0, none⟩) 3 3, .int .i64 sum, .slice none 0 0, .int .i64 many, .int .i64 i] ⟨1, 1, [(0, .cells ⟨[.int .i64 a1, .int .i64 a2, .int .i64 a3]⟩ 3)]⟩ K =
    bif decide (i < many) then
      bif decide (IntKind.i64.wrap (a1 + w1) > IntKind.i64.wrap (a1 + w1)) then False
      else
        bif decide (IntKind.i64.wrap (a2 + w2) > IntKind.i64.wrap (a1 + w1)) then
          bif decide (IntKind.i64.wrap (a3 + w3) > IntKind.i64.wrap (a2 + w2)) then
            NoNames (Obj.cells { toList := [Value.string k3] } 9 (0, 0)) ∧
              (fun v g => F n v g K)
                [Value.func (Fn.yield 0)
                    {
                      toList :=
                        [Value.agg { toList := [Value.string k1, Value.int IntKind.i64 w1] },
                          Value.agg { toList := [Value.string k2, Value.int IntKind.i64 w2] },
                          Value.agg { toList := [Value.string k3, Value.int IntKind.i64 w3] }] }
                    { toList := [] },
                  Value.slice (some { block := 0, off := 0 }) 3 3, Value.int IntKind.i64 sum,
                  Value.slice (some { block := 1, off := 0 }) 1 1, Value.int IntKind.i64 many,
                  Value.int IntKind.i64 (IntKind.i64.wrap (i + 1))]
                { next := 2, low := 2,
                  blocks :=
                    [(0,
                        Obj.cells
                          {
                            toList :=
                              [Value.int IntKind.i64 (IntKind.i64.wrap (a1 + w1)),
                                Value.int IntKind.i64 (IntKind.i64.wrap (a2 + w2)),
                                Value.int IntKind.i64 (IntKind.i64.wrap (IntKind.i64.wrap (a3 + w3) - sum))] }
                          3 (0, 0)),
                      (1, Obj.cells { toList := [Value.string k3] } 9 (0, 0))] }
          else
            NoNames (Obj.cells { toList := [Value.string k2] } 9 (0, 0)) ∧
              (fun v g => F n v g K)
                [Value.func (Fn.yield 0)
                    {
                      toList :=
                        [Value.agg { toList := [Value.string k1, Value.int IntKind.i64 w1] },
                          Value.agg { toList := [Value.string k2, Value.int IntKind.i64 w2] },
                          Value.agg { toList := [Value.string k3, Value.int IntKind.i64 w3] }] }
                    { toList := [] },
                  Value.slice (some { block := 0, off := 0 }) 3 3, Value.int IntKind.i64 sum,
                  Value.slice (some { block := 1, off := 0 }) 1 1, Value.int IntKind.i64 many,
                  Value.int IntKind.i64 (IntKind.i64.wrap (i + 1))]
                { next := 2, low := 2,
                  blocks :=
                    [(0,
                        Obj.cells
                          {
                            toList :=
                              [Value.int IntKind.i64 (IntKind.i64.wrap (a1 + w1)),
                                Value.int IntKind.i64 (IntKind.i64.wrap (IntKind.i64.wrap (a2 + w2) - sum)),
                                Value.int IntKind.i64 (IntKind.i64.wrap (a3 + w3))] }
                          3 (0, 0)),
                      (1, Obj.cells { toList := [Value.string k2] } 9 (0, 0))] }
        else
          bif decide (IntKind.i64.wrap (a3 + w3) > IntKind.i64.wrap (a1 + w1)) then
            NoNames (Obj.cells { toList := [Value.string k3] } 9 (0, 0)) ∧
              (fun v g => F n v g K)
                [Value.func (Fn.yield 0)
                    {
                      toList :=
                        [Value.agg { toList := [Value.string k1, Value.int IntKind.i64 w1] },
                          Value.agg { toList := [Value.string k2, Value.int IntKind.i64 w2] },
                          Value.agg { toList := [Value.string k3, Value.int IntKind.i64 w3] }] }
                    { toList := [] },
                  Value.slice (some { block := 0, off := 0 }) 3 3, Value.int IntKind.i64 sum,
                  Value.slice (some { block := 1, off := 0 }) 1 1, Value.int IntKind.i64 many,
                  Value.int IntKind.i64 (IntKind.i64.wrap (i + 1))]
                { next := 2, low := 2,
                  blocks :=
                    [(0,
                        Obj.cells
                          {
                            toList :=
                              [Value.int IntKind.i64 (IntKind.i64.wrap (a1 + w1)),
                                Value.int IntKind.i64 (IntKind.i64.wrap (a2 + w2)),
                                Value.int IntKind.i64 (IntKind.i64.wrap (IntKind.i64.wrap (a3 + w3) - sum))] }
                          3 (0, 0)),
                      (1, Obj.cells { toList := [Value.string k3] } 9 (0, 0))] }
          else
            NoNames (Obj.cells { toList := [Value.string k1] } 9 (0, 0)) ∧
              (fun v g => F n v g K)
                [Value.func (Fn.yield 0)
                    {
                      toList :=
                        [Value.agg { toList := [Value.string k1, Value.int IntKind.i64 w1] },
                          Value.agg { toList := [Value.string k2, Value.int IntKind.i64 w2] },
                          Value.agg { toList := [Value.string k3, Value.int IntKind.i64 w3] }] }
                    { toList := [] },
                  Value.slice (some { block := 0, off := 0 }) 3 3, Value.int IntKind.i64 sum,
                  Value.slice (some { block := 1, off := 0 }) 1 1, Value.int IntKind.i64 many,
                  Value.int IntKind.i64 (IntKind.i64.wrap (i + 1))]
                { next := 2, low := 2,
                  blocks :=
                    [(0,
                        Obj.cells
                          {
                            toList :=
                              [Value.int IntKind.i64 (IntKind.i64.wrap (IntKind.i64.wrap (a1 + w1) - sum)),
                                Value.int IntKind.i64 (IntKind.i64.wrap (a2 + w2)),
                                Value.int IntKind.i64 (IntKind.i64.wrap (a3 + w3))] }
                          3 (0, 0)),
                      (1, Obj.cells { toList := [Value.string k1] } 9 (0, 0))] }
    else K (AExit.exit 0) [Value.slice none 0 0] { next := 0, low := 0, blocks := [] })
    (hm : many ≤ 2000) :
    ∀ (r : Nat) (a1 a2 a3 i : Int), i + (r + 1) = many → 0 ≤ i → r ≤ 2000 →
      K (.exit 0) [.slice (some ⟨0, 0, none⟩) (r + 1) (r + 1)] ⟨1, 1, [(0, .cells ⟨(turns [w1, w2, w3] sum (r + 1) [a1, a2, a3]).map (keyV [k1, k2, k3])⟩ 9)]⟩ →
      F (r + 2) [fz ⟨[.agg ⟨[.string k1, .int .i64 w1]⟩, .agg ⟨[.string k2, .int .i64 w2]⟩, .agg ⟨[.string k3, .int .i64 w3]⟩]⟩, .slice (some ⟨0, 0, none⟩) 3 3, .int .i64 sum, .slice none 0 0, .int .i64 many, .int .i64 i] ⟨1, 1, [(0, .cells ⟨[.int .i64 a1, .int .i64 a2, .int .i64 a3]⟩ 3)]⟩ K := by
  intro r a1 a2 a3 i h1 h2 h3 h6
  rw [hA]
  refine pick_t (by simp; omega) (cut_mk (by simp) ?_)
  refine cond_mk (fun c2 => cond_mk (fun c3 => ?_) (fun c3 => ?_)) (fun c2 => cond_mk (fun c3 => ?_) (fun c3 => ?_))
  · refine ⟨(nn_app (ss := []) (fun _ q => (by cases q)) k3), ?_⟩
    rw [wrap_id (i + 1) (by omega) (by omega)]
    refine later3 hF hm r _ _ _ (i + 1) [.string k3] 1 (by omega) (by omega) rfl (by omega) (fun v q => by rw [List.mem_singleton.1 q]; rfl) ?_
    have e : turns [w1, w2, w3] sum (r + 1) [a1, a2, a3] = 2 :: turns [w1, w2, w3] sum r [IntKind.i64.wrap (a1 + w1), IntKind.i64.wrap (a2 + w2), IntKind.i64.wrap (IntKind.i64.wrap (a3 + w3) - sum)] := by simp only [turns, left, bump, best, bestOf, c2, c3, cond_true, cond_false, List.set, List.getD_cons_zero, List.getD_cons_succ]
    rw [e] at h6
    have e2 : r + 1 = 1 + r := by omega
    rw [e2] at h6
    exact h6
  · refine ⟨(nn_app (ss := []) (fun _ q => (by cases q)) k2), ?_⟩
    rw [wrap_id (i + 1) (by omega) (by omega)]
    refine later3 hF hm r _ _ _ (i + 1) [.string k2] 1 (by omega) (by omega) rfl (by omega) (fun v q => by rw [List.mem_singleton.1 q]; rfl) ?_
    have e : turns [w1, w2, w3] sum (r + 1) [a1, a2, a3] = 1 :: turns [w1, w2, w3] sum r [IntKind.i64.wrap (a1 + w1), IntKind.i64.wrap (IntKind.i64.wrap (a2 + w2) - sum), IntKind.i64.wrap (a3 + w3)] := by simp only [turns, left, bump, best, bestOf, c2, c3, cond_true, cond_false, List.set, List.getD_cons_zero, List.getD_cons_succ]
    rw [e] at h6
    have e2 : r + 1 = 1 + r := by omega
    rw [e2] at h6
    exact h6
  · refine ⟨(nn_app (ss := []) (fun _ q => (by cases q)) k3), ?_⟩
    rw [wrap_id (i + 1) (by omega) (by omega)]
    refine later3 hF hm r _ _ _ (i + 1) [.string k3] 1 (by omega) (by omega) rfl (by omega) (fun v q => by rw [List.mem_singleton.1 q]; rfl) ?_
    have e : turns [w1, w2, w3] sum (r + 1) [a1, a2, a3] = 2 :: turns [w1, w2, w3] sum r [IntKind.i64.wrap (a1 + w1), IntKind.i64.wrap (a2 + w2), IntKind.i64.wrap (IntKind.i64.wrap (a3 + w3) - sum)] := by simp only [turns, left, bump, best, bestOf, c2, c3, cond_true, cond_false, List.set, List.getD_cons_zero, List.getD_cons_succ]
    rw [e] at h6
    have e2 : r + 1 = 1 + r := by omega
    rw [e2] at h6
    exact h6
  · refine ⟨(nn_app (ss := []) (fun _ q => (by cases q)) k1), ?_⟩
    rw [wrap_id (i + 1) (by omega) (by omega)]
    refine later3 hF hm r _ _ _ (i + 1) [.string k1] 1 (by omega) (by omega) rfl (by omega) (fun v q => by rw [List.mem_singleton.1 q]; rfl) ?_
    have e : turns [w1, w2, w3] sum (r + 1) [a1, a2, a3] = 0 :: turns [w1, w2, w3] sum r [IntKind.i64.wrap (IntKind.i64.wrap (a1 + w1) - sum), IntKind.i64.wrap (a2 + w2), IntKind.i64.wrap (a3 + w3)] := by simp only [turns, left, bump, best, bestOf, c2, c3, cond_true, cond_false, List.set, List.getD_cons_zero, List.getD_cons_succ]
    rw [e] at h6
    have e2 : r + 1 = 1 + r := by omega
    rw [e2] at h6
    exact h6
end

section
variable {F : Nat → List Value → AH → (AExit → List Value → AH → Prop) → Prop} {K : AExit → List Value → AH → Prop} {k1 k2 k3 k4 : ByteArray} {w1 w2 w3 w4 sum many : Int}
theorem later4
    (hF : ∀ (n : Nat) (a1 a2 a3 a4 i : Int) (ss : List Value) (j : Nat), F (n + 1) [fz ⟨[.agg ⟨[.string k1, .int .i64 w1]⟩, .agg ⟨[.string k2, .int .i64 w2]⟩, .agg ⟨[.string k3, .int .i64 w3]⟩, .agg ⟨[.string k4, .int .i64 w4]⟩]⟩, .slice (some ⟨0, 0, none⟩) 4 4, .int .i64 sum, .slice (some ⟨1, 0, none⟩) j j, .int .i64 many, .int .i64 i] ⟨2, 2, [(0, .cells ⟨[.int .i64 a1, .int .i64 a2, .int .i64 a3, .int .i64 a4]⟩ 3), (1, .cells ⟨ss⟩ 9)]⟩ K =
    bif decide (i < many) then
      bif decide (IntKind.i64.wrap (a1 + w1) > IntKind.i64.wrap (a1 + w1)) then False
      else
        bif decide (IntKind.i64.wrap (a2 + w2) > IntKind.i64.wrap (a1 + w1)) then
          bif decide (IntKind.i64.wrap (a3 + w3) > IntKind.i64.wrap (a2 + w2)) then
            bif decide (IntKind.i64.wrap (a4 + w4) > IntKind.i64.wrap (a3 + w3)) then
              bif (j + 1).ble j then False
              else
                bif (j + 1).ble 9223372036854775807 && ((j + 1) * 16).ble 140737488355328 then
                  bif (0 + j * 1).ble (Array.mk ss).size && true && true then
                    NoNames
                        (Obj.cells
                          { toList := List.take (j * 1) (List.drop 0 (Array.mk ss).toList) ++ [Value.string k4] } 9
                          (0, 0)) ∧
                      (fun v g => F n v g K)
                        [Value.func (Fn.yield 0)
                            {
                              toList :=
                                [Value.agg { toList := [Value.string k1, Value.int IntKind.i64 w1] },
                                  Value.agg { toList := [Value.string k2, Value.int IntKind.i64 w2] },
                                  Value.agg { toList := [Value.string k3, Value.int IntKind.i64 w3] },
                                  Value.agg { toList := [Value.string k4, Value.int IntKind.i64 w4] }] }
                            { toList := [] },
                          Value.slice (some { block := 0, off := 0 }) 4 4, Value.int IntKind.i64 sum,
                          Value.slice (some { block := 1, off := 0 }) (j + 1) (j + 1), Value.int IntKind.i64 many,
                          Value.int IntKind.i64 (IntKind.i64.wrap (i + 1))]
                        { next := 2, low := 2,
                          blocks :=
                            [(0,
                                Obj.cells
                                  {
                                    toList :=
                                      [Value.int IntKind.i64 (IntKind.i64.wrap (a1 + w1)),
                                        Value.int IntKind.i64 (IntKind.i64.wrap (a2 + w2)),
                                        Value.int IntKind.i64 (IntKind.i64.wrap (a3 + w3)),
                                        Value.int IntKind.i64 (IntKind.i64.wrap (IntKind.i64.wrap (a4 + w4) - sum))] }
                                  3 (0, 0)),
                              (1,
                                Obj.cells
                                  { toList := List.take (j * 1) (List.drop 0 (Array.mk ss).toList) ++ [Value.string k4] }
                                  9 (0, 0))] }
                  else False
                else False
            else
              bif (j + 1).ble j then False
              else
                bif (j + 1).ble 9223372036854775807 && ((j + 1) * 16).ble 140737488355328 then
                  bif (0 + j * 1).ble (Array.mk ss).size && true && true then
                    NoNames
                        (Obj.cells
                          { toList := List.take (j * 1) (List.drop 0 (Array.mk ss).toList) ++ [Value.string k3] } 9
                          (0, 0)) ∧
                      (fun v g => F n v g K)
                        [Value.func (Fn.yield 0)
                            {
                              toList :=
                                [Value.agg { toList := [Value.string k1, Value.int IntKind.i64 w1] },
                                  Value.agg { toList := [Value.string k2, Value.int IntKind.i64 w2] },
                                  Value.agg { toList := [Value.string k3, Value.int IntKind.i64 w3] },
                                  Value.agg { toList := [Value.string k4, Value.int IntKind.i64 w4] }] }
                            { toList := [] },
                          Value.slice (some { block := 0, off := 0 }) 4 4, Value.int IntKind.i64 sum,
                          Value.slice (some { block := 1, off := 0 }) (j + 1) (j + 1), Value.int IntKind.i64 many,
                          Value.int IntKind.i64 (IntKind.i64.wrap (i + 1))]
                        { next := 2, low := 2,
                          blocks :=
                            [(0,
                                Obj.cells
                                  {
                                    toList :=
                                      [Value.int IntKind.i64 (IntKind.i64.wrap (a1 + w1)),
                                        Value.int IntKind.i64 (IntKind.i64.wrap (a2 + w2)),
                                        Value.int IntKind.i64 (IntKind.i64.wrap (IntKind.i64.wrap (a3 + w3) - sum)),
                                        Value.int IntKind.i64 (IntKind.i64.wrap (a4 + w4))] }
                                  3 (0, 0)),
                              (1,
                                Obj.cells
                                  { toList := List.take (j * 1) (List.drop 0 (Array.mk ss).toList) ++ [Value.string k3] }
                                  9 (0, 0))] }
                  else False
                else False
          else
            bif decide (IntKind.i64.wrap (a4 + w4) > IntKind.i64.wrap (a2 + w2)) then
              bif (j + 1).ble j then False
              else
                bif (j + 1).ble 9223372036854775807 && ((j + 1) * 16).ble 140737488355328 then
                  bif (0 + j * 1).ble (Array.mk ss).size && true && true then
                    NoNames
                        (Obj.cells
                          { toList := List.take (j * 1) (List.drop 0 (Array.mk ss).toList) ++ [Value.string k4] } 9
                          (0, 0)) ∧
                      (fun v g => F n v g K)
                        [Value.func (Fn.yield 0)
                            {
                              toList :=
                                [Value.agg { toList := [Value.string k1, Value.int IntKind.i64 w1] },
                                  Value.agg { toList := [Value.string k2, Value.int IntKind.i64 w2] },
                                  Value.agg { toList := [Value.string k3, Value.int IntKind.i64 w3] },
                                  Value.agg { toList := [Value.string k4, Value.int IntKind.i64 w4] }] }
                            { toList := [] },
                          Value.slice (some { block := 0, off := 0 }) 4 4, Value.int IntKind.i64 sum,
                          Value.slice (some { block := 1, off := 0 }) (j + 1) (j + 1), Value.int IntKind.i64 many,
                          Value.int IntKind.i64 (IntKind.i64.wrap (i + 1))]
                        { next := 2, low := 2,
                          blocks :=
                            [(0,
                                Obj.cells
                                  {
                                    toList :=
                                      [Value.int IntKind.i64 (IntKind.i64.wrap (a1 + w1)),
                                        Value.int IntKind.i64 (IntKind.i64.wrap (a2 + w2)),
                                        Value.int IntKind.i64 (IntKind.i64.wrap (a3 + w3)),
                                        Value.int IntKind.i64 (IntKind.i64.wrap (IntKind.i64.wrap (a4 + w4) - sum))] }
                                  3 (0, 0)),
                              (1,
                                Obj.cells
                                  { toList := List.take (j * 1) (List.drop 0 (Array.mk ss).toList) ++ [Value.string k4] }
                                  9 (0, 0))] }
                  else False
                else False
            else
              bif (j + 1).ble j then False
              else
                bif (j + 1).ble 9223372036854775807 && ((j + 1) * 16).ble 140737488355328 then
                  bif (0 + j * 1).ble (Array.mk ss).size && true && true then
                    NoNames
                        (Obj.cells
                          { toList := List.take (j * 1) (List.drop 0 (Array.mk ss).toList) ++ [Value.string k2] } 9
                          (0, 0)) ∧
                      (fun v g => F n v g K)
                        [Value.func (Fn.yield 0)
                            {
                              toList :=
                                [Value.agg { toList := [Value.string k1, Value.int IntKind.i64 w1] },
                                  Value.agg { toList := [Value.string k2, Value.int IntKind.i64 w2] },
                                  Value.agg { toList := [Value.string k3, Value.int IntKind.i64 w3] },
                                  Value.agg { toList := [Value.string k4, Value.int IntKind.i64 w4] }] }
                            { toList := [] },
                          Value.slice (some { block := 0, off := 0 }) 4 4, Value.int IntKind.i64 sum,
                          Value.slice (some { block := 1, off := 0 }) (j + 1) (j + 1), Value.int IntKind.i64 many,
                          Value.int IntKind.i64 (IntKind.i64.wrap (i + 1))]
                        { next := 2, low := 2,
                          blocks :=
                            [(0,
                                Obj.cells
                                  {
                                    toList :=
                                      [Value.int IntKind.i64 (IntKind.i64.wrap (a1 + w1)),
                                        Value.int IntKind.i64 (IntKind.i64.wrap (IntKind.i64.wrap (a2 + w2) - sum)),
                                        Value.int IntKind.i64 (IntKind.i64.wrap (a3 + w3)),
                                        Value.int IntKind.i64 (IntKind.i64.wrap (a4 + w4))] }
                                  3 (0, 0)),
                              (1,
                                Obj.cells
                                  { toList := List.take (j * 1) (List.drop 0 (Array.mk ss).toList) ++ [Value.string k2] }
                                  9 (0, 0))] }
                  else False
                else False
        else
          bif decide (IntKind.i64.wrap (a3 + w3) > IntKind.i64.wrap (a1 + w1)) then
            bif decide (IntKind.i64.wrap (a4 + w4) > IntKind.i64.wrap (a3 + w3)) then
              bif (j + 1).ble j then False
              else
                bif (j + 1).ble 9223372036854775807 && ((j + 1) * 16).ble 140737488355328 then
                  bif (0 + j * 1).ble (Array.mk ss).size && true && true then
                    NoNames
                        (Obj.cells
                          { toList := List.take (j * 1) (List.drop 0 (Array.mk ss).toList) ++ [Value.string k4] } 9
                          (0, 0)) ∧
                      (fun v g => F n v g K)
                        [Value.func (Fn.yield 0)
                            {
                              toList :=
                                [Value.agg { toList := [Value.string k1, Value.int IntKind.i64 w1] },
                                  Value.agg { toList := [Value.string k2, Value.int IntKind.i64 w2] },
                                  Value.agg { toList := [Value.string k3, Value.int IntKind.i64 w3] },
                                  Value.agg { toList := [Value.string k4, Value.int IntKind.i64 w4] }] }
                            { toList := [] },
                          Value.slice (some { block := 0, off := 0 }) 4 4, Value.int IntKind.i64 sum,
                          Value.slice (some { block := 1, off := 0 }) (j + 1) (j + 1), Value.int IntKind.i64 many,
                          Value.int IntKind.i64 (IntKind.i64.wrap (i + 1))]
                        { next := 2, low := 2,
                          blocks :=
                            [(0,
                                Obj.cells
                                  {
                                    toList :=
                                      [Value.int IntKind.i64 (IntKind.i64.wrap (a1 + w1)),
                                        Value.int IntKind.i64 (IntKind.i64.wrap (a2 + w2)),
                                        Value.int IntKind.i64 (IntKind.i64.wrap (a3 + w3)),
                                        Value.int IntKind.i64 (IntKind.i64.wrap (IntKind.i64.wrap (a4 + w4) - sum))] }
                                  3 (0, 0)),
                              (1,
                                Obj.cells
                                  { toList := List.take (j * 1) (List.drop 0 (Array.mk ss).toList) ++ [Value.string k4] }
                                  9 (0, 0))] }
                  else False
                else False
            else
              bif (j + 1).ble j then False
              else
                bif (j + 1).ble 9223372036854775807 && ((j + 1) * 16).ble 140737488355328 then
                  bif (0 + j * 1).ble (Array.mk ss).size && true && true then
                    NoNames
                        (Obj.cells
                          { toList := List.take (j * 1) (List.drop 0 (Array.mk ss).toList) ++ [Value.string k3] } 9
                          (0, 0)) ∧
                      (fun v g => F n v g K)
                        [Value.func (Fn.yield 0)
                            {
                              toList :=
                                [Value.agg { toList := [Value.string k1, Value.int IntKind.i64 w1] },
                                  Value.agg { toList := [Value.string k2, Value.int IntKind.i64 w2] },
                                  Value.agg { toList := [Value.string k3, Value.int IntKind.i64 w3] },
                                  Value.agg { toList := [Value.string k4, Value.int IntKind.i64 w4] }] }
                            { toList := [] },
                          Value.slice (some { block := 0, off := 0 }) 4 4, Value.int IntKind.i64 sum,
                          Value.slice (some { block := 1, off := 0 }) (j + 1) (j + 1), Value.int IntKind.i64 many,
                          Value.int IntKind.i64 (IntKind.i64.wrap (i + 1))]
                        { next := 2, low := 2,
                          blocks :=
                            [(0,
                                Obj.cells
                                  {
                                    toList :=
                                      [Value.int IntKind.i64 (IntKind.i64.wrap (a1 + w1)),
                                        Value.int IntKind.i64 (IntKind.i64.wrap (a2 + w2)),
                                        Value.int IntKind.i64 (IntKind.i64.wrap (IntKind.i64.wrap (a3 + w3) - sum)),
                                        Value.int IntKind.i64 (IntKind.i64.wrap (a4 + w4))] }
                                  3 (0, 0)),
                              (1,
                                Obj.cells
                                  { toList := List.take (j * 1) (List.drop 0 (Array.mk ss).toList) ++ [Value.string k3] }
                                  9 (0, 0))] }
                  else False
                else False
          else
            bif decide (IntKind.i64.wrap (a4 + w4) > IntKind.i64.wrap (a1 + w1)) then
              bif (j + 1).ble j then False
              else
                bif (j + 1).ble 9223372036854775807 && ((j + 1) * 16).ble 140737488355328 then
                  bif (0 + j * 1).ble (Array.mk ss).size && true && true then
                    NoNames
                        (Obj.cells
                          { toList := List.take (j * 1) (List.drop 0 (Array.mk ss).toList) ++ [Value.string k4] } 9
                          (0, 0)) ∧
                      (fun v g => F n v g K)
                        [Value.func (Fn.yield 0)
                            {
                              toList :=
                                [Value.agg { toList := [Value.string k1, Value.int IntKind.i64 w1] },
                                  Value.agg { toList := [Value.string k2, Value.int IntKind.i64 w2] },
                                  Value.agg { toList := [Value.string k3, Value.int IntKind.i64 w3] },
                                  Value.agg { toList := [Value.string k4, Value.int IntKind.i64 w4] }] }
                            { toList := [] },
                          Value.slice (some { block := 0, off := 0 }) 4 4, Value.int IntKind.i64 sum,
                          Value.slice (some { block := 1, off := 0 }) (j + 1) (j + 1), Value.int IntKind.i64 many,
                          Value.int IntKind.i64 (IntKind.i64.wrap (i + 1))]
                        { next := 2, low := 2,
                          blocks :=
                            [(0,
                                Obj.cells
                                  {
                                    toList :=
                                      [Value.int IntKind.i64 (IntKind.i64.wrap (a1 + w1)),
                                        Value.int IntKind.i64 (IntKind.i64.wrap (a2 + w2)),
                                        Value.int IntKind.i64 (IntKind.i64.wrap (a3 + w3)),
                                        Value.int IntKind.i64 (IntKind.i64.wrap (IntKind.i64.wrap (a4 + w4) - sum))] }
                                  3 (0, 0)),
                              (1,
                                Obj.cells
                                  { toList := List.take (j * 1) (List.drop 0 (Array.mk ss).toList) ++ [Value.string k4] }
                                  9 (0, 0))] }
                  else False
                else False
            else
              bif (j + 1).ble j then False
              else
                bif (j + 1).ble 9223372036854775807 && ((j + 1) * 16).ble 140737488355328 then
                  bif (0 + j * 1).ble (Array.mk ss).size && true && true then
                    NoNames
                        (Obj.cells
                          { toList := List.take (j * 1) (List.drop 0 (Array.mk ss).toList) ++ [Value.string k1] } 9
                          (0, 0)) ∧
                      (fun v g => F n v g K)
                        [Value.func (Fn.yield 0)
                            {
                              toList :=
                                [Value.agg { toList := [Value.string k1, Value.int IntKind.i64 w1] },
                                  Value.agg { toList := [Value.string k2, Value.int IntKind.i64 w2] },
                                  Value.agg { toList := [Value.string k3, Value.int IntKind.i64 w3] },
                                  Value.agg { toList := [Value.string k4, Value.int IntKind.i64 w4] }] }
                            { toList := [] },
                          Value.slice (some { block := 0, off := 0 }) 4 4, Value.int IntKind.i64 sum,
                          Value.slice (some { block := 1, off := 0 }) (j + 1) (j + 1), Value.int IntKind.i64 many,
                          Value.int IntKind.i64 (IntKind.i64.wrap (i + 1))]
                        { next := 2, low := 2,
                          blocks :=
                            [(0,
                                Obj.cells
                                  {
                                    toList :=
                                      [Value.int IntKind.i64 (IntKind.i64.wrap (IntKind.i64.wrap (a1 + w1) - sum)),
                                        Value.int IntKind.i64 (IntKind.i64.wrap (a2 + w2)),
                                        Value.int IntKind.i64 (IntKind.i64.wrap (a3 + w3)),
                                        Value.int IntKind.i64 (IntKind.i64.wrap (a4 + w4))] }
                                  3 (0, 0)),
                              (1,
                                Obj.cells
                                  { toList := List.take (j * 1) (List.drop 0 (Array.mk ss).toList) ++ [Value.string k1] }
                                  9 (0, 0))] }
                  else False
                else False
    else
      NoNames (Obj.cells { toList := ss } 9 (0, 0)) ∧
        K (AExit.exit 0) [Value.slice (some { block := 0, off := 0 }) j j]
          { next := 1, low := 1, blocks := [(0, Obj.cells { toList := ss } 9 (0, 0))] })
    (hm : many ≤ 2000) :
    ∀ (r : Nat) (a1 a2 a3 a4 i : Int) (ss : List Value) (j : Nat), i + r = many → 0 ≤ i → ss.length = j → j + r ≤ 4000 → (∀ v ∈ ss, p1 v = true) →
      K (.exit 0) [.slice (some ⟨0, 0, none⟩) (j + r) (j + r)] ⟨1, 1, [(0, .cells ⟨ss ++ (turns [w1, w2, w3, w4] sum r [a1, a2, a3, a4]).map (keyV [k1, k2, k3, k4])⟩ 9)]⟩ →
      F (r + 1) [fz ⟨[.agg ⟨[.string k1, .int .i64 w1]⟩, .agg ⟨[.string k2, .int .i64 w2]⟩, .agg ⟨[.string k3, .int .i64 w3]⟩, .agg ⟨[.string k4, .int .i64 w4]⟩]⟩, .slice (some ⟨0, 0, none⟩) 4 4, .int .i64 sum, .slice (some ⟨1, 0, none⟩) j j, .int .i64 many, .int .i64 i] ⟨2, 2, [(0, .cells ⟨[.int .i64 a1, .int .i64 a2, .int .i64 a3, .int .i64 a4]⟩ 3), (1, .cells ⟨ss⟩ 9)]⟩ K := by
  intro r
  induction r with
  | zero =>
    intro a1 a2 a3 a4 i ss j h1 h2 h3 h4 h5 h6
    rw [hF]
    refine pick_f (by simp; omega) ⟨h5, ?_⟩
    simpa [turns] using h6
  | succ r ih =>
    intro a1 a2 a3 a4 i ss j h1 h2 h3 h4 h5 h6
    rw [hF]
    refine pick_t (by simp; omega) (cut_mk (by simp) ?_)
    refine cond_mk (fun c2 => cond_mk (fun c3 => cond_mk (fun c4 => ?_) (fun c4 => ?_)) (fun c3 => cond_mk (fun c4 => ?_) (fun c4 => ?_))) (fun c2 => cond_mk (fun c3 => cond_mk (fun c4 => ?_) (fun c4 => ?_)) (fun c3 => cond_mk (fun c4 => ?_) (fun c4 => ?_)))
    · refine cut_mk (ble_ss j) (need_mk (ble_big j (by omega)) (need_mk (ble_len h3) ?_))
      rw [take_ok h3]
      refine ⟨nn_app h5 k4, ?_⟩
      rw [wrap_id (i + 1) (by omega) (by omega)]
      refine ih _ _ _ _ (i + 1) (ss ++ [.string k4]) (j + 1) (by omega) (by omega) (by simp [h3]) (by omega) (p1_app h5 k4) ?_
      have e : turns [w1, w2, w3, w4] sum (r + 1) [a1, a2, a3, a4] = 3 :: turns [w1, w2, w3, w4] sum r [IntKind.i64.wrap (a1 + w1), IntKind.i64.wrap (a2 + w2), IntKind.i64.wrap (a3 + w3), IntKind.i64.wrap (IntKind.i64.wrap (a4 + w4) - sum)] := by simp only [turns, left, bump, best, bestOf, c2, c3, c4, cond_true, cond_false, List.set, List.getD_cons_zero, List.getD_cons_succ]
      rw [e] at h6
      have e2 : j + (r + 1) = j + 1 + r := by omega
      rw [e2] at h6
      rw [List.append_assoc]
      exact h6
    · refine cut_mk (ble_ss j) (need_mk (ble_big j (by omega)) (need_mk (ble_len h3) ?_))
      rw [take_ok h3]
      refine ⟨nn_app h5 k3, ?_⟩
      rw [wrap_id (i + 1) (by omega) (by omega)]
      refine ih _ _ _ _ (i + 1) (ss ++ [.string k3]) (j + 1) (by omega) (by omega) (by simp [h3]) (by omega) (p1_app h5 k3) ?_
      have e : turns [w1, w2, w3, w4] sum (r + 1) [a1, a2, a3, a4] = 2 :: turns [w1, w2, w3, w4] sum r [IntKind.i64.wrap (a1 + w1), IntKind.i64.wrap (a2 + w2), IntKind.i64.wrap (IntKind.i64.wrap (a3 + w3) - sum), IntKind.i64.wrap (a4 + w4)] := by simp only [turns, left, bump, best, bestOf, c2, c3, c4, cond_true, cond_false, List.set, List.getD_cons_zero, List.getD_cons_succ]
      rw [e] at h6
      have e2 : j + (r + 1) = j + 1 + r := by omega
      rw [e2] at h6
      rw [List.append_assoc]
      exact h6
    · refine cut_mk (ble_ss j) (need_mk (ble_big j (by omega)) (need_mk (ble_len h3) ?_))
      rw [take_ok h3]
      refine ⟨nn_app h5 k4, ?_⟩
      rw [wrap_id (i + 1) (by omega) (by omega)]
      refine ih _ _ _ _ (i + 1) (ss ++ [.string k4]) (j + 1) (by omega) (by omega) (by simp [h3]) (by omega) (p1_app h5 k4) ?_
      have e : turns [w1, w2, w3, w4] sum (r + 1) [a1, a2, a3, a4] = 3 :: turns [w1, w2, w3, w4] sum r [IntKind.i64.wrap (a1 + w1), IntKind.i64.wrap (a2 + w2), IntKind.i64.wrap (a3 + w3), IntKind.i64.wrap (IntKind.i64.wrap (a4 + w4) - sum)] := by simp only [turns, left, bump, best, bestOf, c2, c3, c4, cond_true, cond_false, List.set, List.getD_cons_zero, List.getD_cons_succ]
      rw [e] at h6
      have e2 : j + (r + 1) = j + 1 + r := by omega
      rw [e2] at h6
      rw [List.append_assoc]
      exact h6
    · refine cut_mk (ble_ss j) (need_mk (ble_big j (by omega)) (need_mk (ble_len h3) ?_))
      rw [take_ok h3]
      refine ⟨nn_app h5 k2, ?_⟩
      rw [wrap_id (i + 1) (by omega) (by omega)]
      refine ih _ _ _ _ (i + 1) (ss ++ [.string k2]) (j + 1) (by omega) (by omega) (by simp [h3]) (by omega) (p1_app h5 k2) ?_
      have e : turns [w1, w2, w3, w4] sum (r + 1) [a1, a2, a3, a4] = 1 :: turns [w1, w2, w3, w4] sum r [IntKind.i64.wrap (a1 + w1), IntKind.i64.wrap (IntKind.i64.wrap (a2 + w2) - sum), IntKind.i64.wrap (a3 + w3), IntKind.i64.wrap (a4 + w4)] := by simp only [turns, left, bump, best, bestOf, c2, c3, c4, cond_true, cond_false, List.set, List.getD_cons_zero, List.getD_cons_succ]
      rw [e] at h6
      have e2 : j + (r + 1) = j + 1 + r := by omega
      rw [e2] at h6
      rw [List.append_assoc]
      exact h6
    · refine cut_mk (ble_ss j) (need_mk (ble_big j (by omega)) (need_mk (ble_len h3) ?_))
      rw [take_ok h3]
      refine ⟨nn_app h5 k4, ?_⟩
      rw [wrap_id (i + 1) (by omega) (by omega)]
      refine ih _ _ _ _ (i + 1) (ss ++ [.string k4]) (j + 1) (by omega) (by omega) (by simp [h3]) (by omega) (p1_app h5 k4) ?_
      have e : turns [w1, w2, w3, w4] sum (r + 1) [a1, a2, a3, a4] = 3 :: turns [w1, w2, w3, w4] sum r [IntKind.i64.wrap (a1 + w1), IntKind.i64.wrap (a2 + w2), IntKind.i64.wrap (a3 + w3), IntKind.i64.wrap (IntKind.i64.wrap (a4 + w4) - sum)] := by simp only [turns, left, bump, best, bestOf, c2, c3, c4, cond_true, cond_false, List.set, List.getD_cons_zero, List.getD_cons_succ]
      rw [e] at h6
      have e2 : j + (r + 1) = j + 1 + r := by omega
      rw [e2] at h6
      rw [List.append_assoc]
      exact h6
    · refine cut_mk (ble_ss j) (need_mk (ble_big j (by omega)) (need_mk (ble_len h3) ?_))
      rw [take_ok h3]
      refine ⟨nn_app h5 k3, ?_⟩
      rw [wrap_id (i + 1) (by omega) (by omega)]
      refine ih _ _ _ _ (i + 1) (ss ++ [.string k3]) (j + 1) (by omega) (by omega) (by simp [h3]) (by omega) (p1_app h5 k3) ?_
      have e : turns [w1, w2, w3, w4] sum (r + 1) [a1, a2, a3, a4] = 2 :: turns [w1, w2, w3, w4] sum r [IntKind.i64.wrap (a1 + w1), IntKind.i64.wrap (a2 + w2), IntKind.i64.wrap (IntKind.i64.wrap (a3 + w3) - sum), IntKind.i64.wrap (a4 + w4)] := by simp only [turns, left, bump, best, bestOf, c2, c3, c4, cond_true, cond_false, List.set, List.getD_cons_zero, List.getD_cons_succ]
      rw [e] at h6
      have e2 : j + (r + 1) = j + 1 + r := by omega
      rw [e2] at h6
      rw [List.append_assoc]
      exact h6
    · refine cut_mk (ble_ss j) (need_mk (ble_big j (by omega)) (need_mk (ble_len h3) ?_))
      rw [take_ok h3]
      refine ⟨nn_app h5 k4, ?_⟩
      rw [wrap_id (i + 1) (by omega) (by omega)]
      refine ih _ _ _ _ (i + 1) (ss ++ [.string k4]) (j + 1) (by omega) (by omega) (by simp [h3]) (by omega) (p1_app h5 k4) ?_
      have e : turns [w1, w2, w3, w4] sum (r + 1) [a1, a2, a3, a4] = 3 :: turns [w1, w2, w3, w4] sum r [IntKind.i64.wrap (a1 + w1), IntKind.i64.wrap (a2 + w2), IntKind.i64.wrap (a3 + w3), IntKind.i64.wrap (IntKind.i64.wrap (a4 + w4) - sum)] := by simp only [turns, left, bump, best, bestOf, c2, c3, c4, cond_true, cond_false, List.set, List.getD_cons_zero, List.getD_cons_succ]
      rw [e] at h6
      have e2 : j + (r + 1) = j + 1 + r := by omega
      rw [e2] at h6
      rw [List.append_assoc]
      exact h6
    · refine cut_mk (ble_ss j) (need_mk (ble_big j (by omega)) (need_mk (ble_len h3) ?_))
      rw [take_ok h3]
      refine ⟨nn_app h5 k1, ?_⟩
      rw [wrap_id (i + 1) (by omega) (by omega)]
      refine ih _ _ _ _ (i + 1) (ss ++ [.string k1]) (j + 1) (by omega) (by omega) (by simp [h3]) (by omega) (p1_app h5 k1) ?_
      have e : turns [w1, w2, w3, w4] sum (r + 1) [a1, a2, a3, a4] = 0 :: turns [w1, w2, w3, w4] sum r [IntKind.i64.wrap (IntKind.i64.wrap (a1 + w1) - sum), IntKind.i64.wrap (a2 + w2), IntKind.i64.wrap (a3 + w3), IntKind.i64.wrap (a4 + w4)] := by simp only [turns, left, bump, best, bestOf, c2, c3, c4, cond_true, cond_false, List.set, List.getD_cons_zero, List.getD_cons_succ]
      rw [e] at h6
      have e2 : j + (r + 1) = j + 1 + r := by omega
      rw [e2] at h6
      rw [List.append_assoc]
      exact h6
theorem first4
    (hF : ∀ (n : Nat) (a1 a2 a3 a4 i : Int) (ss : List Value) (j : Nat), F (n + 1) [fz ⟨[.agg ⟨[.string k1, .int .i64 w1]⟩, .agg ⟨[.string k2, .int .i64 w2]⟩, .agg ⟨[.string k3, .int .i64 w3]⟩, .agg ⟨[.string k4, .int .i64 w4]⟩]⟩, .slice (some ⟨0, 0, none⟩) 4 4, .int .i64 sum, .slice (some ⟨1, 0, none⟩) j j, .int .i64 many, .int .i64 i] ⟨2, 2, [(0, .cells ⟨[.int .i64 a1, .int .i64 a2, .int .i64 a3, .int .i64 a4]⟩ 3), (1, .cells ⟨ss⟩ 9)]⟩ K =
    bif decide (i < many) then
      bif decide (IntKind.i64.wrap (a1 + w1) > IntKind.i64.wrap (a1 + w1)) then False
      else
        bif decide (IntKind.i64.wrap (a2 + w2) > IntKind.i64.wrap (a1 + w1)) then
          bif decide (IntKind.i64.wrap (a3 + w3) > IntKind.i64.wrap (a2 + w2)) then
            bif decide (IntKind.i64.wrap (a4 + w4) > IntKind.i64.wrap (a3 + w3)) then
              bif (j + 1).ble j then False
              else
                bif (j + 1).ble 9223372036854775807 && ((j + 1) * 16).ble 140737488355328 then
                  bif (0 + j * 1).ble (Array.mk ss).size && true && true then
                    NoNames
                        (Obj.cells
                          { toList := List.take (j * 1) (List.drop 0 (Array.mk ss).toList) ++ [Value.string k4] } 9
                          (0, 0)) ∧
                      (fun v g => F n v g K)
                        [Value.func (Fn.yield 0)
                            {
                              toList :=
                                [Value.agg { toList := [Value.string k1, Value.int IntKind.i64 w1] },
                                  Value.agg { toList := [Value.string k2, Value.int IntKind.i64 w2] },
                                  Value.agg { toList := [Value.string k3, Value.int IntKind.i64 w3] },
                                  Value.agg { toList := [Value.string k4, Value.int IntKind.i64 w4] }] }
                            { toList := [] },
                          Value.slice (some { block := 0, off := 0 }) 4 4, Value.int IntKind.i64 sum,
                          Value.slice (some { block := 1, off := 0 }) (j + 1) (j + 1), Value.int IntKind.i64 many,
                          Value.int IntKind.i64 (IntKind.i64.wrap (i + 1))]
                        { next := 2, low := 2,
                          blocks :=
                            [(0,
                                Obj.cells
                                  {
                                    toList :=
                                      [Value.int IntKind.i64 (IntKind.i64.wrap (a1 + w1)),
                                        Value.int IntKind.i64 (IntKind.i64.wrap (a2 + w2)),
                                        Value.int IntKind.i64 (IntKind.i64.wrap (a3 + w3)),
                                        Value.int IntKind.i64 (IntKind.i64.wrap (IntKind.i64.wrap (a4 + w4) - sum))] }
                                  3 (0, 0)),
                              (1,
                                Obj.cells
                                  { toList := List.take (j * 1) (List.drop 0 (Array.mk ss).toList) ++ [Value.string k4] }
                                  9 (0, 0))] }
                  else False
                else False
            else
              bif (j + 1).ble j then False
              else
                bif (j + 1).ble 9223372036854775807 && ((j + 1) * 16).ble 140737488355328 then
                  bif (0 + j * 1).ble (Array.mk ss).size && true && true then
                    NoNames
                        (Obj.cells
                          { toList := List.take (j * 1) (List.drop 0 (Array.mk ss).toList) ++ [Value.string k3] } 9
                          (0, 0)) ∧
                      (fun v g => F n v g K)
                        [Value.func (Fn.yield 0)
                            {
                              toList :=
                                [Value.agg { toList := [Value.string k1, Value.int IntKind.i64 w1] },
                                  Value.agg { toList := [Value.string k2, Value.int IntKind.i64 w2] },
                                  Value.agg { toList := [Value.string k3, Value.int IntKind.i64 w3] },
                                  Value.agg { toList := [Value.string k4, Value.int IntKind.i64 w4] }] }
                            { toList := [] },
                          Value.slice (some { block := 0, off := 0 }) 4 4, Value.int IntKind.i64 sum,
                          Value.slice (some { block := 1, off := 0 }) (j + 1) (j + 1), Value.int IntKind.i64 many,
                          Value.int IntKind.i64 (IntKind.i64.wrap (i + 1))]
                        { next := 2, low := 2,
                          blocks :=
                            [(0,
                                Obj.cells
                                  {
                                    toList :=
                                      [Value.int IntKind.i64 (IntKind.i64.wrap (a1 + w1)),
                                        Value.int IntKind.i64 (IntKind.i64.wrap (a2 + w2)),
                                        Value.int IntKind.i64 (IntKind.i64.wrap (IntKind.i64.wrap (a3 + w3) - sum)),
                                        Value.int IntKind.i64 (IntKind.i64.wrap (a4 + w4))] }
                                  3 (0, 0)),
                              (1,
                                Obj.cells
                                  { toList := List.take (j * 1) (List.drop 0 (Array.mk ss).toList) ++ [Value.string k3] }
                                  9 (0, 0))] }
                  else False
                else False
          else
            bif decide (IntKind.i64.wrap (a4 + w4) > IntKind.i64.wrap (a2 + w2)) then
              bif (j + 1).ble j then False
              else
                bif (j + 1).ble 9223372036854775807 && ((j + 1) * 16).ble 140737488355328 then
                  bif (0 + j * 1).ble (Array.mk ss).size && true && true then
                    NoNames
                        (Obj.cells
                          { toList := List.take (j * 1) (List.drop 0 (Array.mk ss).toList) ++ [Value.string k4] } 9
                          (0, 0)) ∧
                      (fun v g => F n v g K)
                        [Value.func (Fn.yield 0)
                            {
                              toList :=
                                [Value.agg { toList := [Value.string k1, Value.int IntKind.i64 w1] },
                                  Value.agg { toList := [Value.string k2, Value.int IntKind.i64 w2] },
                                  Value.agg { toList := [Value.string k3, Value.int IntKind.i64 w3] },
                                  Value.agg { toList := [Value.string k4, Value.int IntKind.i64 w4] }] }
                            { toList := [] },
                          Value.slice (some { block := 0, off := 0 }) 4 4, Value.int IntKind.i64 sum,
                          Value.slice (some { block := 1, off := 0 }) (j + 1) (j + 1), Value.int IntKind.i64 many,
                          Value.int IntKind.i64 (IntKind.i64.wrap (i + 1))]
                        { next := 2, low := 2,
                          blocks :=
                            [(0,
                                Obj.cells
                                  {
                                    toList :=
                                      [Value.int IntKind.i64 (IntKind.i64.wrap (a1 + w1)),
                                        Value.int IntKind.i64 (IntKind.i64.wrap (a2 + w2)),
                                        Value.int IntKind.i64 (IntKind.i64.wrap (a3 + w3)),
                                        Value.int IntKind.i64 (IntKind.i64.wrap (IntKind.i64.wrap (a4 + w4) - sum))] }
                                  3 (0, 0)),
                              (1,
                                Obj.cells
                                  { toList := List.take (j * 1) (List.drop 0 (Array.mk ss).toList) ++ [Value.string k4] }
                                  9 (0, 0))] }
                  else False
                else False
            else
              bif (j + 1).ble j then False
              else
                bif (j + 1).ble 9223372036854775807 && ((j + 1) * 16).ble 140737488355328 then
                  bif (0 + j * 1).ble (Array.mk ss).size && true && true then
                    NoNames
                        (Obj.cells
                          { toList := List.take (j * 1) (List.drop 0 (Array.mk ss).toList) ++ [Value.string k2] } 9
                          (0, 0)) ∧
                      (fun v g => F n v g K)
                        [Value.func (Fn.yield 0)
                            {
                              toList :=
                                [Value.agg { toList := [Value.string k1, Value.int IntKind.i64 w1] },
                                  Value.agg { toList := [Value.string k2, Value.int IntKind.i64 w2] },
                                  Value.agg { toList := [Value.string k3, Value.int IntKind.i64 w3] },
                                  Value.agg { toList := [Value.string k4, Value.int IntKind.i64 w4] }] }
                            { toList := [] },
                          Value.slice (some { block := 0, off := 0 }) 4 4, Value.int IntKind.i64 sum,
                          Value.slice (some { block := 1, off := 0 }) (j + 1) (j + 1), Value.int IntKind.i64 many,
                          Value.int IntKind.i64 (IntKind.i64.wrap (i + 1))]
                        { next := 2, low := 2,
                          blocks :=
                            [(0,
                                Obj.cells
                                  {
                                    toList :=
                                      [Value.int IntKind.i64 (IntKind.i64.wrap (a1 + w1)),
                                        Value.int IntKind.i64 (IntKind.i64.wrap (IntKind.i64.wrap (a2 + w2) - sum)),
                                        Value.int IntKind.i64 (IntKind.i64.wrap (a3 + w3)),
                                        Value.int IntKind.i64 (IntKind.i64.wrap (a4 + w4))] }
                                  3 (0, 0)),
                              (1,
                                Obj.cells
                                  { toList := List.take (j * 1) (List.drop 0 (Array.mk ss).toList) ++ [Value.string k2] }
                                  9 (0, 0))] }
                  else False
                else False
        else
          bif decide (IntKind.i64.wrap (a3 + w3) > IntKind.i64.wrap (a1 + w1)) then
            bif decide (IntKind.i64.wrap (a4 + w4) > IntKind.i64.wrap (a3 + w3)) then
              bif (j + 1).ble j then False
              else
                bif (j + 1).ble 9223372036854775807 && ((j + 1) * 16).ble 140737488355328 then
                  bif (0 + j * 1).ble (Array.mk ss).size && true && true then
                    NoNames
                        (Obj.cells
                          { toList := List.take (j * 1) (List.drop 0 (Array.mk ss).toList) ++ [Value.string k4] } 9
                          (0, 0)) ∧
                      (fun v g => F n v g K)
                        [Value.func (Fn.yield 0)
                            {
                              toList :=
                                [Value.agg { toList := [Value.string k1, Value.int IntKind.i64 w1] },
                                  Value.agg { toList := [Value.string k2, Value.int IntKind.i64 w2] },
                                  Value.agg { toList := [Value.string k3, Value.int IntKind.i64 w3] },
                                  Value.agg { toList := [Value.string k4, Value.int IntKind.i64 w4] }] }
                            { toList := [] },
                          Value.slice (some { block := 0, off := 0 }) 4 4, Value.int IntKind.i64 sum,
                          Value.slice (some { block := 1, off := 0 }) (j + 1) (j + 1), Value.int IntKind.i64 many,
                          Value.int IntKind.i64 (IntKind.i64.wrap (i + 1))]
                        { next := 2, low := 2,
                          blocks :=
                            [(0,
                                Obj.cells
                                  {
                                    toList :=
                                      [Value.int IntKind.i64 (IntKind.i64.wrap (a1 + w1)),
                                        Value.int IntKind.i64 (IntKind.i64.wrap (a2 + w2)),
                                        Value.int IntKind.i64 (IntKind.i64.wrap (a3 + w3)),
                                        Value.int IntKind.i64 (IntKind.i64.wrap (IntKind.i64.wrap (a4 + w4) - sum))] }
                                  3 (0, 0)),
                              (1,
                                Obj.cells
                                  { toList := List.take (j * 1) (List.drop 0 (Array.mk ss).toList) ++ [Value.string k4] }
                                  9 (0, 0))] }
                  else False
                else False
            else
              bif (j + 1).ble j then False
              else
                bif (j + 1).ble 9223372036854775807 && ((j + 1) * 16).ble 140737488355328 then
                  bif (0 + j * 1).ble (Array.mk ss).size && true && true then
                    NoNames
                        (Obj.cells
                          { toList := List.take (j * 1) (List.drop 0 (Array.mk ss).toList) ++ [Value.string k3] } 9
                          (0, 0)) ∧
                      (fun v g => F n v g K)
                        [Value.func (Fn.yield 0)
                            {
                              toList :=
                                [Value.agg { toList := [Value.string k1, Value.int IntKind.i64 w1] },
                                  Value.agg { toList := [Value.string k2, Value.int IntKind.i64 w2] },
                                  Value.agg { toList := [Value.string k3, Value.int IntKind.i64 w3] },
                                  Value.agg { toList := [Value.string k4, Value.int IntKind.i64 w4] }] }
                            { toList := [] },
                          Value.slice (some { block := 0, off := 0 }) 4 4, Value.int IntKind.i64 sum,
                          Value.slice (some { block := 1, off := 0 }) (j + 1) (j + 1), Value.int IntKind.i64 many,
                          Value.int IntKind.i64 (IntKind.i64.wrap (i + 1))]
                        { next := 2, low := 2,
                          blocks :=
                            [(0,
                                Obj.cells
                                  {
                                    toList :=
                                      [Value.int IntKind.i64 (IntKind.i64.wrap (a1 + w1)),
                                        Value.int IntKind.i64 (IntKind.i64.wrap (a2 + w2)),
                                        Value.int IntKind.i64 (IntKind.i64.wrap (IntKind.i64.wrap (a3 + w3) - sum)),
                                        Value.int IntKind.i64 (IntKind.i64.wrap (a4 + w4))] }
                                  3 (0, 0)),
                              (1,
                                Obj.cells
                                  { toList := List.take (j * 1) (List.drop 0 (Array.mk ss).toList) ++ [Value.string k3] }
                                  9 (0, 0))] }
                  else False
                else False
          else
            bif decide (IntKind.i64.wrap (a4 + w4) > IntKind.i64.wrap (a1 + w1)) then
              bif (j + 1).ble j then False
              else
                bif (j + 1).ble 9223372036854775807 && ((j + 1) * 16).ble 140737488355328 then
                  bif (0 + j * 1).ble (Array.mk ss).size && true && true then
                    NoNames
                        (Obj.cells
                          { toList := List.take (j * 1) (List.drop 0 (Array.mk ss).toList) ++ [Value.string k4] } 9
                          (0, 0)) ∧
                      (fun v g => F n v g K)
                        [Value.func (Fn.yield 0)
                            {
                              toList :=
                                [Value.agg { toList := [Value.string k1, Value.int IntKind.i64 w1] },
                                  Value.agg { toList := [Value.string k2, Value.int IntKind.i64 w2] },
                                  Value.agg { toList := [Value.string k3, Value.int IntKind.i64 w3] },
                                  Value.agg { toList := [Value.string k4, Value.int IntKind.i64 w4] }] }
                            { toList := [] },
                          Value.slice (some { block := 0, off := 0 }) 4 4, Value.int IntKind.i64 sum,
                          Value.slice (some { block := 1, off := 0 }) (j + 1) (j + 1), Value.int IntKind.i64 many,
                          Value.int IntKind.i64 (IntKind.i64.wrap (i + 1))]
                        { next := 2, low := 2,
                          blocks :=
                            [(0,
                                Obj.cells
                                  {
                                    toList :=
                                      [Value.int IntKind.i64 (IntKind.i64.wrap (a1 + w1)),
                                        Value.int IntKind.i64 (IntKind.i64.wrap (a2 + w2)),
                                        Value.int IntKind.i64 (IntKind.i64.wrap (a3 + w3)),
                                        Value.int IntKind.i64 (IntKind.i64.wrap (IntKind.i64.wrap (a4 + w4) - sum))] }
                                  3 (0, 0)),
                              (1,
                                Obj.cells
                                  { toList := List.take (j * 1) (List.drop 0 (Array.mk ss).toList) ++ [Value.string k4] }
                                  9 (0, 0))] }
                  else False
                else False
            else
              bif (j + 1).ble j then False
              else
                bif (j + 1).ble 9223372036854775807 && ((j + 1) * 16).ble 140737488355328 then
                  bif (0 + j * 1).ble (Array.mk ss).size && true && true then
                    NoNames
                        (Obj.cells
                          { toList := List.take (j * 1) (List.drop 0 (Array.mk ss).toList) ++ [Value.string k1] } 9
                          (0, 0)) ∧
                      (fun v g => F n v g K)
                        [Value.func (Fn.yield 0)
                            {
                              toList :=
                                [Value.agg { toList := [Value.string k1, Value.int IntKind.i64 w1] },
                                  Value.agg { toList := [Value.string k2, Value.int IntKind.i64 w2] },
                                  Value.agg { toList := [Value.string k3, Value.int IntKind.i64 w3] },
                                  Value.agg { toList := [Value.string k4, Value.int IntKind.i64 w4] }] }
                            { toList := [] },
                          Value.slice (some { block := 0, off := 0 }) 4 4, Value.int IntKind.i64 sum,
                          Value.slice (some { block := 1, off := 0 }) (j + 1) (j + 1), Value.int IntKind.i64 many,
                          Value.int IntKind.i64 (IntKind.i64.wrap (i + 1))]
                        { next := 2, low := 2,
                          blocks :=
                            [(0,
                                Obj.cells
                                  {
                                    toList :=
                                      [Value.int IntKind.i64 (IntKind.i64.wrap (IntKind.i64.wrap (a1 + w1) - sum)),
                                        Value.int IntKind.i64 (IntKind.i64.wrap (a2 + w2)),
                                        Value.int IntKind.i64 (IntKind.i64.wrap (a3 + w3)),
                                        Value.int IntKind.i64 (IntKind.i64.wrap (a4 + w4))] }
                                  3 (0, 0)),
                              (1,
                                Obj.cells
                                  { toList := List.take (j * 1) (List.drop 0 (Array.mk ss).toList) ++ [Value.string k1] }
                                  9 (0, 0))] }
                  else False
                else False
    else
      NoNames (Obj.cells { toList := ss } 9 (0, 0)) ∧
        K (AExit.exit 0) [Value.slice (some { block := 0, off := 0 }) j j]
          { next := 1, low := 1, blocks := [(0, Obj.cells { toList := ss } 9 (0, 0))] })
    (hA : ∀ (n : Nat) (a1 a2 a3 a4 i : Int), F (n + 1) [fz ⟨[.agg ⟨[.string k1, .int .i64 w1]⟩, .agg ⟨[.string k2, .int .i64 w2]⟩, .agg ⟨[.string k3, .int .i64 w3]⟩, .agg ⟨[.string k4, .int .i64 w4]⟩]⟩, .slice (some ⟨0, 0, none⟩) 4 4, .int .i64 sum, .slice none 0 0, .int .i64 many, .int .i64 i] ⟨1, 1, [(0, .cells ⟨[.int .i64 a1, .int .i64 a2, .int .i64 a3, .int .i64 a4]⟩ 3)]⟩ K =
    bif decide (i < many) then
      bif decide (IntKind.i64.wrap (a1 + w1) > IntKind.i64.wrap (a1 + w1)) then False
      else
        bif decide (IntKind.i64.wrap (a2 + w2) > IntKind.i64.wrap (a1 + w1)) then
          bif decide (IntKind.i64.wrap (a3 + w3) > IntKind.i64.wrap (a2 + w2)) then
            bif decide (IntKind.i64.wrap (a4 + w4) > IntKind.i64.wrap (a3 + w3)) then
              NoNames (Obj.cells { toList := [Value.string k4] } 9 (0, 0)) ∧
                (fun v g => F n v g K)
                  [Value.func (Fn.yield 0)
                      {
                        toList :=
                          [Value.agg { toList := [Value.string k1, Value.int IntKind.i64 w1] },
                            Value.agg { toList := [Value.string k2, Value.int IntKind.i64 w2] },
                            Value.agg { toList := [Value.string k3, Value.int IntKind.i64 w3] },
                            Value.agg { toList := [Value.string k4, Value.int IntKind.i64 w4] }] }
                      { toList := [] },
                    Value.slice (some { block := 0, off := 0 }) 4 4, Value.int IntKind.i64 sum,
                    Value.slice (some { block := 1, off := 0 }) 1 1, Value.int IntKind.i64 many,
                    Value.int IntKind.i64 (IntKind.i64.wrap (i + 1))]
                  { next := 2, low := 2,
                    blocks :=
                      [(0,
                          Obj.cells
                            {
                              toList :=
                                [Value.int IntKind.i64 (IntKind.i64.wrap (a1 + w1)),
                                  Value.int IntKind.i64 (IntKind.i64.wrap (a2 + w2)),
                                  Value.int IntKind.i64 (IntKind.i64.wrap (a3 + w3)),
                                  Value.int IntKind.i64 (IntKind.i64.wrap (IntKind.i64.wrap (a4 + w4) - sum))] }
                            3 (0, 0)),
                        (1, Obj.cells { toList := [Value.string k4] } 9 (0, 0))] }
            else
              NoNames (Obj.cells { toList := [Value.string k3] } 9 (0, 0)) ∧
                (fun v g => F n v g K)
                  [Value.func (Fn.yield 0)
                      {
                        toList :=
                          [Value.agg { toList := [Value.string k1, Value.int IntKind.i64 w1] },
                            Value.agg { toList := [Value.string k2, Value.int IntKind.i64 w2] },
                            Value.agg { toList := [Value.string k3, Value.int IntKind.i64 w3] },
                            Value.agg { toList := [Value.string k4, Value.int IntKind.i64 w4] }] }
                      { toList := [] },
                    Value.slice (some { block := 0, off := 0 }) 4 4, Value.int IntKind.i64 sum,
                    Value.slice (some { block := 1, off := 0 }) 1 1, Value.int IntKind.i64 many,
                    Value.int IntKind.i64 (IntKind.i64.wrap (i + 1))]
                  { next := 2, low := 2,
                    blocks :=
                      [(0,
                          Obj.cells
                            {
                              toList :=
                                [Value.int IntKind.i64 (IntKind.i64.wrap (a1 + w1)),
                                  Value.int IntKind.i64 (IntKind.i64.wrap (a2 + w2)),
                                  Value.int IntKind.i64 (IntKind.i64.wrap (IntKind.i64.wrap (a3 + w3) - sum)),
                                  Value.int IntKind.i64 (IntKind.i64.wrap (a4 + w4))] }
                            3 (0, 0)),
                        (1, Obj.cells { toList := [Value.string k3] } 9 (0, 0))] }
          else
            bif decide (IntKind.i64.wrap (a4 + w4) > IntKind.i64.wrap (a2 + w2)) then
              NoNames (Obj.cells { toList := [Value.string k4] } 9 (0, 0)) ∧
                (fun v g => F n v g K)
                  [Value.func (Fn.yield 0)
                      {
                        toList :=
                          [Value.agg { toList := [Value.string k1, Value.int IntKind.i64 w1] },
                            Value.agg { toList := [Value.string k2, Value.int IntKind.i64 w2] },
                            Value.agg { toList := [Value.string k3, Value.int IntKind.i64 w3] },
                            Value.agg { toList := [Value.string k4, Value.int IntKind.i64 w4] }] }
                      { toList := [] },
                    Value.slice (some { block := 0, off := 0 }) 4 4, Value.int IntKind.i64 sum,
                    Value.slice (some { block := 1, off := 0 }) 1 1, Value.int IntKind.i64 many,
                    Value.int IntKind.i64 (IntKind.i64.wrap (i + 1))]
                  { next := 2, low := 2,
                    blocks :=
                      [(0,
                          Obj.cells
                            {
                              toList :=
                                [Value.int IntKind.i64 (IntKind.i64.wrap (a1 + w1)),
                                  Value.int IntKind.i64 (IntKind.i64.wrap (a2 + w2)),
                                  Value.int IntKind.i64 (IntKind.i64.wrap (a3 + w3)),
                                  Value.int IntKind.i64 (IntKind.i64.wrap (IntKind.i64.wrap (a4 + w4) - sum))] }
                            3 (0, 0)),
                        (1, Obj.cells { toList := [Value.string k4] } 9 (0, 0))] }
            else
              NoNames (Obj.cells { toList := [Value.string k2] } 9 (0, 0)) ∧
                (fun v g => F n v g K)
                  [Value.func (Fn.yield 0)
                      {
                        toList :=
                          [Value.agg { toList := [Value.string k1, Value.int IntKind.i64 w1] },
                            Value.agg { toList := [Value.string k2, Value.int IntKind.i64 w2] },
                            Value.agg { toList := [Value.string k3, Value.int IntKind.i64 w3] },
                            Value.agg { toList := [Value.string k4, Value.int IntKind.i64 w4] }] }
                      { toList := [] },
                    Value.slice (some { block := 0, off := 0 }) 4 4, Value.int IntKind.i64 sum,
                    Value.slice (some { block := 1, off := 0 }) 1 1, Value.int IntKind.i64 many,
                    Value.int IntKind.i64 (IntKind.i64.wrap (i + 1))]
                  { next := 2, low := 2,
                    blocks :=
                      [(0,
                          Obj.cells
                            {
                              toList :=
                                [Value.int IntKind.i64 (IntKind.i64.wrap (a1 + w1)),
                                  Value.int IntKind.i64 (IntKind.i64.wrap (IntKind.i64.wrap (a2 + w2) - sum)),
                                  Value.int IntKind.i64 (IntKind.i64.wrap (a3 + w3)),
                                  Value.int IntKind.i64 (IntKind.i64.wrap (a4 + w4))] }
                            3 (0, 0)),
                        (1, Obj.cells { toList := [Value.string k2] } 9 (0, 0))] }
        else
          bif decide (IntKind.i64.wrap (a3 + w3) > IntKind.i64.wrap (a1 + w1)) then
            bif decide (IntKind.i64.wrap (a4 + w4) > IntKind.i64.wrap (a3 + w3)) then
              NoNames (Obj.cells { toList := [Value.string k4] } 9 (0, 0)) ∧
                (fun v g => F n v g K)
                  [Value.func (Fn.yield 0)
                      {
                        toList :=
                          [Value.agg { toList := [Value.string k1, Value.int IntKind.i64 w1] },
                            Value.agg { toList := [Value.string k2, Value.int IntKind.i64 w2] },
                            Value.agg { toList := [Value.string k3, Value.int IntKind.i64 w3] },
                            Value.agg { toList := [Value.string k4, Value.int IntKind.i64 w4] }] }
                      { toList := [] },
                    Value.slice (some { block := 0, off := 0 }) 4 4, Value.int IntKind.i64 sum,
                    Value.slice (some { block := 1, off := 0 }) 1 1, Value.int IntKind.i64 many,
                    Value.int IntKind.i64 (IntKind.i64.wrap (i + 1))]
                  { next := 2, low := 2,
                    blocks :=
                      [(0,
                          Obj.cells
                            {
                              toList :=
                                [Value.int IntKind.i64 (IntKind.i64.wrap (a1 + w1)),
                                  Value.int IntKind.i64 (IntKind.i64.wrap (a2 + w2)),
                                  Value.int IntKind.i64 (IntKind.i64.wrap (a3 + w3)),
                                  Value.int IntKind.i64 (IntKind.i64.wrap (IntKind.i64.wrap (a4 + w4) - sum))] }
                            3 (0, 0)),
                        (1, Obj.cells { toList := [Value.string k4] } 9 (0, 0))] }
            else
              NoNames (Obj.cells { toList := [Value.string k3] } 9 (0, 0)) ∧
                (fun v g => F n v g K)
                  [Value.func (Fn.yield 0)
                      {
                        toList :=
                          [Value.agg { toList := [Value.string k1, Value.int IntKind.i64 w1] },
                            Value.agg { toList := [Value.string k2, Value.int IntKind.i64 w2] },
                            Value.agg { toList := [Value.string k3, Value.int IntKind.i64 w3] },
                            Value.agg { toList := [Value.string k4, Value.int IntKind.i64 w4] }] }
                      { toList := [] },
                    Value.slice (some { block := 0, off := 0 }) 4 4, Value.int IntKind.i64 sum,
                    Value.slice (some { block := 1, off := 0 }) 1 1, Value.int IntKind.i64 many,
                    Value.int IntKind.i64 (IntKind.i64.wrap (i + 1))]
                  { next := 2, low := 2,
                    blocks :=
                      [(0,
                          Obj.cells
                            {
                              toList :=
                                [Value.int IntKind.i64 (IntKind.i64.wrap (a1 + w1)),
                                  Value.int IntKind.i64 (IntKind.i64.wrap (a2 + w2)),
                                  Value.int IntKind.i64 (IntKind.i64.wrap (IntKind.i64.wrap (a3 + w3) - sum)),
                                  Value.int IntKind.i64 (IntKind.i64.wrap (a4 + w4))] }
                            3 (0, 0)),
                        (1, Obj.cells { toList := [Value.string k3] } 9 (0, 0))] }
          else
            bif decide (IntKind.i64.wrap (a4 + w4) > IntKind.i64.wrap (a1 + w1)) then
              NoNames (Obj.cells { toList := [Value.string k4] } 9 (0, 0)) ∧
                (fun v g => F n v g K)
                  [Value.func (Fn.yield 0)
                      {
                        toList :=
                          [Value.agg { toList := [Value.string k1, Value.int IntKind.i64 w1] },
                            Value.agg { toList := [Value.string k2, Value.int IntKind.i64 w2] },
                            Value.agg { toList := [Value.string k3, Value.int IntKind.i64 w3] },
                            Value.agg { toList := [Value.string k4, Value.int IntKind.i64 w4] }] }
                      { toList := [] },
                    Value.slice (some { block := 0, off := 0 }) 4 4, Value.int IntKind.i64 sum,
                    Value.slice (some { block := 1, off := 0 }) 1 1, Value.int IntKind.i64 many,
                    Value.int IntKind.i64 (IntKind.i64.wrap (i + 1))]
                  { next := 2, low := 2,
                    blocks :=
                      [(0,
                          Obj.cells
                            {
                              toList :=
                                [Value.int IntKind.i64 (IntKind.i64.wrap (a1 + w1)),
                                  Value.int IntKind.i64 (IntKind.i64.wrap (a2 + w2)),
                                  Value.int IntKind.i64 (IntKind.i64.wrap (a3 + w3)),
                                  Value.int IntKind.i64 (IntKind.i64.wrap (IntKind.i64.wrap (a4 + w4) - sum))] }
                            3 (0, 0)),
                        (1, Obj.cells { toList := [Value.string k4] } 9 (0, 0))] }
            else
              NoNames (Obj.cells { toList := [Value.string k1] } 9 (0, 0)) ∧
                (fun v g => F n v g K)
                  [Value.func (Fn.yield 0)
                      {
                        toList :=
                          [Value.agg { toList := [Value.string k1, Value.int IntKind.i64 w1] },
                            Value.agg { toList := [Value.string k2, Value.int IntKind.i64 w2] },
                            Value.agg { toList := [Value.string k3, Value.int IntKind.i64 w3] },
                            Value.agg { toList := [Value.string k4, Value.int IntKind.i64 w4] }] }
                      { toList := [] },
                    Value.slice (some { block := 0, off := 0 }) 4 4, Value.int IntKind.i64 sum,
                    Value.slice (some { block := 1, off := 0 }) 1 1, Value.int IntKind.i64 many,
                    Value.int IntKind.i64 (IntKind.i64.wrap (i + 1))]
                  { next := 2, low := 2,
                    blocks :=
                      [(0,
                          Obj.cells
                            {
                              toList :=
                                [Value.int IntKind.i64 (IntKind.i64.wrap (IntKind.i64.wrap (a1 + w1) - sum)),
                                  Value.int IntKind.i64 (IntKind.i64.wrap (a2 + w2)),
                                  Value.int IntKind.i64 (IntKind.i64.wrap (a3 + w3)),
                                  Value.int IntKind.i64 (IntKind.i64.wrap (a4 + w4))] }
                            3 (0, 0)),
                        (1, Obj.cells { toList := [Value.string k1] } 9 (0, 0))] }
    else K (AExit.exit 0) [Value.slice none 0 0] { next := 0, low := 0, blocks := [] })
    (hm : many ≤ 2000) :
    ∀ (r : Nat) (a1 a2 a3 a4 i : Int), i + (r + 1) = many → 0 ≤ i → r ≤ 2000 →
      K (.exit 0) [.slice (some ⟨0, 0, none⟩) (r + 1) (r + 1)] ⟨1, 1, [(0, .cells ⟨(turns [w1, w2, w3, w4] sum (r + 1) [a1, a2, a3, a4]).map (keyV [k1, k2, k3, k4])⟩ 9)]⟩ →
      F (r + 2) [fz ⟨[.agg ⟨[.string k1, .int .i64 w1]⟩, .agg ⟨[.string k2, .int .i64 w2]⟩, .agg ⟨[.string k3, .int .i64 w3]⟩, .agg ⟨[.string k4, .int .i64 w4]⟩]⟩, .slice (some ⟨0, 0, none⟩) 4 4, .int .i64 sum, .slice none 0 0, .int .i64 many, .int .i64 i] ⟨1, 1, [(0, .cells ⟨[.int .i64 a1, .int .i64 a2, .int .i64 a3, .int .i64 a4]⟩ 3)]⟩ K := by
  intro r a1 a2 a3 a4 i h1 h2 h3 h6
  rw [hA]
  refine pick_t (by simp; omega) (cut_mk (by simp) ?_)
  refine cond_mk (fun c2 => cond_mk (fun c3 => cond_mk (fun c4 => ?_) (fun c4 => ?_)) (fun c3 => cond_mk (fun c4 => ?_) (fun c4 => ?_))) (fun c2 => cond_mk (fun c3 => cond_mk (fun c4 => ?_) (fun c4 => ?_)) (fun c3 => cond_mk (fun c4 => ?_) (fun c4 => ?_)))
  · refine ⟨(nn_app (ss := []) (fun _ q => (by cases q)) k4), ?_⟩
    rw [wrap_id (i + 1) (by omega) (by omega)]
    refine later4 hF hm r _ _ _ _ (i + 1) [.string k4] 1 (by omega) (by omega) rfl (by omega) (fun v q => by rw [List.mem_singleton.1 q]; rfl) ?_
    have e : turns [w1, w2, w3, w4] sum (r + 1) [a1, a2, a3, a4] = 3 :: turns [w1, w2, w3, w4] sum r [IntKind.i64.wrap (a1 + w1), IntKind.i64.wrap (a2 + w2), IntKind.i64.wrap (a3 + w3), IntKind.i64.wrap (IntKind.i64.wrap (a4 + w4) - sum)] := by simp only [turns, left, bump, best, bestOf, c2, c3, c4, cond_true, cond_false, List.set, List.getD_cons_zero, List.getD_cons_succ]
    rw [e] at h6
    have e2 : r + 1 = 1 + r := by omega
    rw [e2] at h6
    exact h6
  · refine ⟨(nn_app (ss := []) (fun _ q => (by cases q)) k3), ?_⟩
    rw [wrap_id (i + 1) (by omega) (by omega)]
    refine later4 hF hm r _ _ _ _ (i + 1) [.string k3] 1 (by omega) (by omega) rfl (by omega) (fun v q => by rw [List.mem_singleton.1 q]; rfl) ?_
    have e : turns [w1, w2, w3, w4] sum (r + 1) [a1, a2, a3, a4] = 2 :: turns [w1, w2, w3, w4] sum r [IntKind.i64.wrap (a1 + w1), IntKind.i64.wrap (a2 + w2), IntKind.i64.wrap (IntKind.i64.wrap (a3 + w3) - sum), IntKind.i64.wrap (a4 + w4)] := by simp only [turns, left, bump, best, bestOf, c2, c3, c4, cond_true, cond_false, List.set, List.getD_cons_zero, List.getD_cons_succ]
    rw [e] at h6
    have e2 : r + 1 = 1 + r := by omega
    rw [e2] at h6
    exact h6
  · refine ⟨(nn_app (ss := []) (fun _ q => (by cases q)) k4), ?_⟩
    rw [wrap_id (i + 1) (by omega) (by omega)]
    refine later4 hF hm r _ _ _ _ (i + 1) [.string k4] 1 (by omega) (by omega) rfl (by omega) (fun v q => by rw [List.mem_singleton.1 q]; rfl) ?_
    have e : turns [w1, w2, w3, w4] sum (r + 1) [a1, a2, a3, a4] = 3 :: turns [w1, w2, w3, w4] sum r [IntKind.i64.wrap (a1 + w1), IntKind.i64.wrap (a2 + w2), IntKind.i64.wrap (a3 + w3), IntKind.i64.wrap (IntKind.i64.wrap (a4 + w4) - sum)] := by simp only [turns, left, bump, best, bestOf, c2, c3, c4, cond_true, cond_false, List.set, List.getD_cons_zero, List.getD_cons_succ]
    rw [e] at h6
    have e2 : r + 1 = 1 + r := by omega
    rw [e2] at h6
    exact h6
  · refine ⟨(nn_app (ss := []) (fun _ q => (by cases q)) k2), ?_⟩
    rw [wrap_id (i + 1) (by omega) (by omega)]
    refine later4 hF hm r _ _ _ _ (i + 1) [.string k2] 1 (by omega) (by omega) rfl (by omega) (fun v q => by rw [List.mem_singleton.1 q]; rfl) ?_
    have e : turns [w1, w2, w3, w4] sum (r + 1) [a1, a2, a3, a4] = 1 :: turns [w1, w2, w3, w4] sum r [IntKind.i64.wrap (a1 + w1), IntKind.i64.wrap (IntKind.i64.wrap (a2 + w2) - sum), IntKind.i64.wrap (a3 + w3), IntKind.i64.wrap (a4 + w4)] := by simp only [turns, left, bump, best, bestOf, c2, c3, c4, cond_true, cond_false, List.set, List.getD_cons_zero, List.getD_cons_succ]
    rw [e] at h6
    have e2 : r + 1 = 1 + r := by omega
    rw [e2] at h6
    exact h6
  · refine ⟨(nn_app (ss := []) (fun _ q => (by cases q)) k4), ?_⟩
    rw [wrap_id (i + 1) (by omega) (by omega)]
    refine later4 hF hm r _ _ _ _ (i + 1) [.string k4] 1 (by omega) (by omega) rfl (by omega) (fun v q => by rw [List.mem_singleton.1 q]; rfl) ?_
    have e : turns [w1, w2, w3, w4] sum (r + 1) [a1, a2, a3, a4] = 3 :: turns [w1, w2, w3, w4] sum r [IntKind.i64.wrap (a1 + w1), IntKind.i64.wrap (a2 + w2), IntKind.i64.wrap (a3 + w3), IntKind.i64.wrap (IntKind.i64.wrap (a4 + w4) - sum)] := by simp only [turns, left, bump, best, bestOf, c2, c3, c4, cond_true, cond_false, List.set, List.getD_cons_zero, List.getD_cons_succ]
    rw [e] at h6
    have e2 : r + 1 = 1 + r := by omega
    rw [e2] at h6
    exact h6
  · refine ⟨(nn_app (ss := []) (fun _ q => (by cases q)) k3), ?_⟩
    rw [wrap_id (i + 1) (by omega) (by omega)]
    refine later4 hF hm r _ _ _ _ (i + 1) [.string k3] 1 (by omega) (by omega) rfl (by omega) (fun v q => by rw [List.mem_singleton.1 q]; rfl) ?_
    have e : turns [w1, w2, w3, w4] sum (r + 1) [a1, a2, a3, a4] = 2 :: turns [w1, w2, w3, w4] sum r [IntKind.i64.wrap (a1 + w1), IntKind.i64.wrap (a2 + w2), IntKind.i64.wrap (IntKind.i64.wrap (a3 + w3) - sum), IntKind.i64.wrap (a4 + w4)] := by simp only [turns, left, bump, best, bestOf, c2, c3, c4, cond_true, cond_false, List.set, List.getD_cons_zero, List.getD_cons_succ]
    rw [e] at h6
    have e2 : r + 1 = 1 + r := by omega
    rw [e2] at h6
    exact h6
  · refine ⟨(nn_app (ss := []) (fun _ q => (by cases q)) k4), ?_⟩
    rw [wrap_id (i + 1) (by omega) (by omega)]
    refine later4 hF hm r _ _ _ _ (i + 1) [.string k4] 1 (by omega) (by omega) rfl (by omega) (fun v q => by rw [List.mem_singleton.1 q]; rfl) ?_
    have e : turns [w1, w2, w3, w4] sum (r + 1) [a1, a2, a3, a4] = 3 :: turns [w1, w2, w3, w4] sum r [IntKind.i64.wrap (a1 + w1), IntKind.i64.wrap (a2 + w2), IntKind.i64.wrap (a3 + w3), IntKind.i64.wrap (IntKind.i64.wrap (a4 + w4) - sum)] := by simp only [turns, left, bump, best, bestOf, c2, c3, c4, cond_true, cond_false, List.set, List.getD_cons_zero, List.getD_cons_succ]
    rw [e] at h6
    have e2 : r + 1 = 1 + r := by omega
    rw [e2] at h6
    exact h6
  · refine ⟨(nn_app (ss := []) (fun _ q => (by cases q)) k1), ?_⟩
    rw [wrap_id (i + 1) (by omega) (by omega)]
    refine later4 hF hm r _ _ _ _ (i + 1) [.string k1] 1 (by omega) (by omega) rfl (by omega) (fun v q => by rw [List.mem_singleton.1 q]; rfl) ?_
    have e : turns [w1, w2, w3, w4] sum (r + 1) [a1, a2, a3, a4] = 0 :: turns [w1, w2, w3, w4] sum r [IntKind.i64.wrap (IntKind.i64.wrap (a1 + w1) - sum), IntKind.i64.wrap (a2 + w2), IntKind.i64.wrap (a3 + w3), IntKind.i64.wrap (a4 + w4)] := by simp only [turns, left, bump, best, bestOf, c2, c3, c4, cond_true, cond_false, List.set, List.getD_cons_zero, List.getD_cons_succ]
    rw [e] at h6
    have e2 : r + 1 = 1 + r := by omega
    rw [e2] at h6
    exact h6
end

theorem rd1a (k1 : ByteArray) (w1 a1 sum many i : Int) (B : List Value → AH → Prop) (Q : AExit → List Value → AH → Prop) : (once 0 Tryz.prog SR [(2, false)] noHooks 100 74 [0, 7, 8, 9, 28, 29] [1] [9] [0] (oneLoop (codeOf Tryz.f24) 12) [fz ⟨[.agg ⟨[.string k1, .int .i64 w1]⟩]⟩, .slice (some ⟨0, 0, none⟩) 1 1, .int .i64 sum, .slice none 0 0, .int .i64 many, .int .i64 i] ⟨1, 1, [(0, .cells ⟨[.int .i64 a1]⟩ 3)]⟩ B Q) =
    bif decide (i < many) then
      bif decide (IntKind.i64.wrap (a1 + w1) > IntKind.i64.wrap (a1 + w1)) then False
      else
        NoNames (Obj.cells { toList := [Value.string k1] } 9 (0, 0)) ∧
          B
            [Value.func (Fn.yield 0) { toList := [Value.agg { toList := [Value.string k1, Value.int IntKind.i64 w1] }] }
                { toList := [] },
              Value.slice (some { block := 0, off := 0 }) 1 1, Value.int IntKind.i64 sum,
              Value.slice (some { block := 1, off := 0 }) 1 1, Value.int IntKind.i64 many,
              Value.int IntKind.i64 (IntKind.i64.wrap (i + 1))]
            { next := 2, low := 2,
              blocks :=
                [(0,
                    Obj.cells { toList := [Value.int IntKind.i64 (IntKind.i64.wrap (IntKind.i64.wrap (a1 + w1) - sum))] } 3
                      (0, 0)),
                  (1, Obj.cells { toList := [Value.string k1] } 9 (0, 0))] }
    else Q (AExit.exit 0) [Value.slice none 0 0] { next := 0, low := 0, blocks := [] } := by kernel_rfl
theorem rd1b (k1 : ByteArray) (w1 a1 sum many i : Int) (ss : List Value) (j : Nat) (B : List Value → AH → Prop) (Q : AExit → List Value → AH → Prop) : (once 0 Tryz.prog SR [(2, false)] noHooks 100 74 [0, 7, 8, 9, 28, 29] [1] [9] [0] (oneLoop (codeOf Tryz.f24) 12) [fz ⟨[.agg ⟨[.string k1, .int .i64 w1]⟩]⟩, .slice (some ⟨0, 0, none⟩) 1 1, .int .i64 sum, .slice (some ⟨1, 0, none⟩) j j, .int .i64 many, .int .i64 i] ⟨2, 2, [(0, .cells ⟨[.int .i64 a1]⟩ 3), (1, .cells ⟨ss⟩ 9)]⟩ B Q) =
    bif decide (i < many) then
      bif decide (IntKind.i64.wrap (a1 + w1) > IntKind.i64.wrap (a1 + w1)) then False
      else
        bif (j + 1).ble j then False
        else
          bif (j + 1).ble 9223372036854775807 && ((j + 1) * 16).ble 140737488355328 then
            bif (0 + j * 1).ble (Array.mk ss).size && true && true then
              NoNames
                  (Obj.cells { toList := List.take (j * 1) (List.drop 0 (Array.mk ss).toList) ++ [Value.string k1] } 9
                    (0, 0)) ∧
                B
                  [Value.func (Fn.yield 0)
                      { toList := [Value.agg { toList := [Value.string k1, Value.int IntKind.i64 w1] }] } { toList := [] },
                    Value.slice (some { block := 0, off := 0 }) 1 1, Value.int IntKind.i64 sum,
                    Value.slice (some { block := 1, off := 0 }) (j + 1) (j + 1), Value.int IntKind.i64 many,
                    Value.int IntKind.i64 (IntKind.i64.wrap (i + 1))]
                  { next := 2, low := 2,
                    blocks :=
                      [(0,
                          Obj.cells
                            { toList := [Value.int IntKind.i64 (IntKind.i64.wrap (IntKind.i64.wrap (a1 + w1) - sum))] } 3
                            (0, 0)),
                        (1,
                          Obj.cells
                            { toList := List.take (j * 1) (List.drop 0 (Array.mk ss).toList) ++ [Value.string k1] } 9
                            (0, 0))] }
            else False
          else False
    else
      NoNames (Obj.cells { toList := ss } 9 (0, 0)) ∧
        Q (AExit.exit 0) [Value.slice (some { block := 0, off := 0 }) j j]
          { next := 1, low := 1, blocks := [(0, Obj.cells { toList := ss } 9 (0, 0))] } := by kernel_rfl
theorem rd2a (k1 k2 : ByteArray) (w1 w2 a1 a2 sum many i : Int) (B : List Value → AH → Prop) (Q : AExit → List Value → AH → Prop) : (once 0 Tryz.prog SR [(2, false)] noHooks 100 74 [0, 7, 8, 9, 28, 29] [1] [9] [0] (oneLoop (codeOf Tryz.f24) 12) [fz ⟨[.agg ⟨[.string k1, .int .i64 w1]⟩, .agg ⟨[.string k2, .int .i64 w2]⟩]⟩, .slice (some ⟨0, 0, none⟩) 2 2, .int .i64 sum, .slice none 0 0, .int .i64 many, .int .i64 i] ⟨1, 1, [(0, .cells ⟨[.int .i64 a1, .int .i64 a2]⟩ 3)]⟩ B Q) =
    bif decide (i < many) then
      bif decide (IntKind.i64.wrap (a1 + w1) > IntKind.i64.wrap (a1 + w1)) then False
      else
        bif decide (IntKind.i64.wrap (a2 + w2) > IntKind.i64.wrap (a1 + w1)) then
          NoNames (Obj.cells { toList := [Value.string k2] } 9 (0, 0)) ∧
            B
              [Value.func (Fn.yield 0)
                  {
                    toList :=
                      [Value.agg { toList := [Value.string k1, Value.int IntKind.i64 w1] },
                        Value.agg { toList := [Value.string k2, Value.int IntKind.i64 w2] }] }
                  { toList := [] },
                Value.slice (some { block := 0, off := 0 }) 2 2, Value.int IntKind.i64 sum,
                Value.slice (some { block := 1, off := 0 }) 1 1, Value.int IntKind.i64 many,
                Value.int IntKind.i64 (IntKind.i64.wrap (i + 1))]
              { next := 2, low := 2,
                blocks :=
                  [(0,
                      Obj.cells
                        {
                          toList :=
                            [Value.int IntKind.i64 (IntKind.i64.wrap (a1 + w1)),
                              Value.int IntKind.i64 (IntKind.i64.wrap (IntKind.i64.wrap (a2 + w2) - sum))] }
                        3 (0, 0)),
                    (1, Obj.cells { toList := [Value.string k2] } 9 (0, 0))] }
        else
          NoNames (Obj.cells { toList := [Value.string k1] } 9 (0, 0)) ∧
            B
              [Value.func (Fn.yield 0)
                  {
                    toList :=
                      [Value.agg { toList := [Value.string k1, Value.int IntKind.i64 w1] },
                        Value.agg { toList := [Value.string k2, Value.int IntKind.i64 w2] }] }
                  { toList := [] },
                Value.slice (some { block := 0, off := 0 }) 2 2, Value.int IntKind.i64 sum,
                Value.slice (some { block := 1, off := 0 }) 1 1, Value.int IntKind.i64 many,
                Value.int IntKind.i64 (IntKind.i64.wrap (i + 1))]
              { next := 2, low := 2,
                blocks :=
                  [(0,
                      Obj.cells
                        {
                          toList :=
                            [Value.int IntKind.i64 (IntKind.i64.wrap (IntKind.i64.wrap (a1 + w1) - sum)),
                              Value.int IntKind.i64 (IntKind.i64.wrap (a2 + w2))] }
                        3 (0, 0)),
                    (1, Obj.cells { toList := [Value.string k1] } 9 (0, 0))] }
    else Q (AExit.exit 0) [Value.slice none 0 0] { next := 0, low := 0, blocks := [] } := by kernel_rfl
theorem rd2b (k1 k2 : ByteArray) (w1 w2 a1 a2 sum many i : Int) (ss : List Value) (j : Nat) (B : List Value → AH → Prop) (Q : AExit → List Value → AH → Prop) : (once 0 Tryz.prog SR [(2, false)] noHooks 100 74 [0, 7, 8, 9, 28, 29] [1] [9] [0] (oneLoop (codeOf Tryz.f24) 12) [fz ⟨[.agg ⟨[.string k1, .int .i64 w1]⟩, .agg ⟨[.string k2, .int .i64 w2]⟩]⟩, .slice (some ⟨0, 0, none⟩) 2 2, .int .i64 sum, .slice (some ⟨1, 0, none⟩) j j, .int .i64 many, .int .i64 i] ⟨2, 2, [(0, .cells ⟨[.int .i64 a1, .int .i64 a2]⟩ 3), (1, .cells ⟨ss⟩ 9)]⟩ B Q) =
    bif decide (i < many) then
      bif decide (IntKind.i64.wrap (a1 + w1) > IntKind.i64.wrap (a1 + w1)) then False
      else
        bif decide (IntKind.i64.wrap (a2 + w2) > IntKind.i64.wrap (a1 + w1)) then
          bif (j + 1).ble j then False
          else
            bif (j + 1).ble 9223372036854775807 && ((j + 1) * 16).ble 140737488355328 then
              bif (0 + j * 1).ble (Array.mk ss).size && true && true then
                NoNames
                    (Obj.cells { toList := List.take (j * 1) (List.drop 0 (Array.mk ss).toList) ++ [Value.string k2] } 9
                      (0, 0)) ∧
                  B
                    [Value.func (Fn.yield 0)
                        {
                          toList :=
                            [Value.agg { toList := [Value.string k1, Value.int IntKind.i64 w1] },
                              Value.agg { toList := [Value.string k2, Value.int IntKind.i64 w2] }] }
                        { toList := [] },
                      Value.slice (some { block := 0, off := 0 }) 2 2, Value.int IntKind.i64 sum,
                      Value.slice (some { block := 1, off := 0 }) (j + 1) (j + 1), Value.int IntKind.i64 many,
                      Value.int IntKind.i64 (IntKind.i64.wrap (i + 1))]
                    { next := 2, low := 2,
                      blocks :=
                        [(0,
                            Obj.cells
                              {
                                toList :=
                                  [Value.int IntKind.i64 (IntKind.i64.wrap (a1 + w1)),
                                    Value.int IntKind.i64 (IntKind.i64.wrap (IntKind.i64.wrap (a2 + w2) - sum))] }
                              3 (0, 0)),
                          (1,
                            Obj.cells
                              { toList := List.take (j * 1) (List.drop 0 (Array.mk ss).toList) ++ [Value.string k2] } 9
                              (0, 0))] }
              else False
            else False
        else
          bif (j + 1).ble j then False
          else
            bif (j + 1).ble 9223372036854775807 && ((j + 1) * 16).ble 140737488355328 then
              bif (0 + j * 1).ble (Array.mk ss).size && true && true then
                NoNames
                    (Obj.cells { toList := List.take (j * 1) (List.drop 0 (Array.mk ss).toList) ++ [Value.string k1] } 9
                      (0, 0)) ∧
                  B
                    [Value.func (Fn.yield 0)
                        {
                          toList :=
                            [Value.agg { toList := [Value.string k1, Value.int IntKind.i64 w1] },
                              Value.agg { toList := [Value.string k2, Value.int IntKind.i64 w2] }] }
                        { toList := [] },
                      Value.slice (some { block := 0, off := 0 }) 2 2, Value.int IntKind.i64 sum,
                      Value.slice (some { block := 1, off := 0 }) (j + 1) (j + 1), Value.int IntKind.i64 many,
                      Value.int IntKind.i64 (IntKind.i64.wrap (i + 1))]
                    { next := 2, low := 2,
                      blocks :=
                        [(0,
                            Obj.cells
                              {
                                toList :=
                                  [Value.int IntKind.i64 (IntKind.i64.wrap (IntKind.i64.wrap (a1 + w1) - sum)),
                                    Value.int IntKind.i64 (IntKind.i64.wrap (a2 + w2))] }
                              3 (0, 0)),
                          (1,
                            Obj.cells
                              { toList := List.take (j * 1) (List.drop 0 (Array.mk ss).toList) ++ [Value.string k1] } 9
                              (0, 0))] }
              else False
            else False
    else
      NoNames (Obj.cells { toList := ss } 9 (0, 0)) ∧
        Q (AExit.exit 0) [Value.slice (some { block := 0, off := 0 }) j j]
          { next := 1, low := 1, blocks := [(0, Obj.cells { toList := ss } 9 (0, 0))] } := by kernel_rfl
theorem rd3a (k1 k2 k3 : ByteArray) (w1 w2 w3 a1 a2 a3 sum many i : Int) (B : List Value → AH → Prop) (Q : AExit → List Value → AH → Prop) : (once 0 Tryz.prog SR [(2, false)] noHooks 100 74 [0, 7, 8, 9, 28, 29] [1] [9] [0] (oneLoop (codeOf Tryz.f24) 12) [fz ⟨[.agg ⟨[.string k1, .int .i64 w1]⟩, .agg ⟨[.string k2, .int .i64 w2]⟩, .agg ⟨[.string k3, .int .i64 w3]⟩]⟩, .slice (some ⟨0, 0, none⟩) 3 3, .int .i64 sum, .slice none 0 0, .int .i64 many, .int .i64 i] ⟨1, 1, [(0, .cells ⟨[.int .i64 a1, .int .i64 a2, .int .i64 a3]⟩ 3)]⟩ B Q) =
    bif decide (i < many) then
      bif decide (IntKind.i64.wrap (a1 + w1) > IntKind.i64.wrap (a1 + w1)) then False
      else
        bif decide (IntKind.i64.wrap (a2 + w2) > IntKind.i64.wrap (a1 + w1)) then
          bif decide (IntKind.i64.wrap (a3 + w3) > IntKind.i64.wrap (a2 + w2)) then
            NoNames (Obj.cells { toList := [Value.string k3] } 9 (0, 0)) ∧
              B
                [Value.func (Fn.yield 0)
                    {
                      toList :=
                        [Value.agg { toList := [Value.string k1, Value.int IntKind.i64 w1] },
                          Value.agg { toList := [Value.string k2, Value.int IntKind.i64 w2] },
                          Value.agg { toList := [Value.string k3, Value.int IntKind.i64 w3] }] }
                    { toList := [] },
                  Value.slice (some { block := 0, off := 0 }) 3 3, Value.int IntKind.i64 sum,
                  Value.slice (some { block := 1, off := 0 }) 1 1, Value.int IntKind.i64 many,
                  Value.int IntKind.i64 (IntKind.i64.wrap (i + 1))]
                { next := 2, low := 2,
                  blocks :=
                    [(0,
                        Obj.cells
                          {
                            toList :=
                              [Value.int IntKind.i64 (IntKind.i64.wrap (a1 + w1)),
                                Value.int IntKind.i64 (IntKind.i64.wrap (a2 + w2)),
                                Value.int IntKind.i64 (IntKind.i64.wrap (IntKind.i64.wrap (a3 + w3) - sum))] }
                          3 (0, 0)),
                      (1, Obj.cells { toList := [Value.string k3] } 9 (0, 0))] }
          else
            NoNames (Obj.cells { toList := [Value.string k2] } 9 (0, 0)) ∧
              B
                [Value.func (Fn.yield 0)
                    {
                      toList :=
                        [Value.agg { toList := [Value.string k1, Value.int IntKind.i64 w1] },
                          Value.agg { toList := [Value.string k2, Value.int IntKind.i64 w2] },
                          Value.agg { toList := [Value.string k3, Value.int IntKind.i64 w3] }] }
                    { toList := [] },
                  Value.slice (some { block := 0, off := 0 }) 3 3, Value.int IntKind.i64 sum,
                  Value.slice (some { block := 1, off := 0 }) 1 1, Value.int IntKind.i64 many,
                  Value.int IntKind.i64 (IntKind.i64.wrap (i + 1))]
                { next := 2, low := 2,
                  blocks :=
                    [(0,
                        Obj.cells
                          {
                            toList :=
                              [Value.int IntKind.i64 (IntKind.i64.wrap (a1 + w1)),
                                Value.int IntKind.i64 (IntKind.i64.wrap (IntKind.i64.wrap (a2 + w2) - sum)),
                                Value.int IntKind.i64 (IntKind.i64.wrap (a3 + w3))] }
                          3 (0, 0)),
                      (1, Obj.cells { toList := [Value.string k2] } 9 (0, 0))] }
        else
          bif decide (IntKind.i64.wrap (a3 + w3) > IntKind.i64.wrap (a1 + w1)) then
            NoNames (Obj.cells { toList := [Value.string k3] } 9 (0, 0)) ∧
              B
                [Value.func (Fn.yield 0)
                    {
                      toList :=
                        [Value.agg { toList := [Value.string k1, Value.int IntKind.i64 w1] },
                          Value.agg { toList := [Value.string k2, Value.int IntKind.i64 w2] },
                          Value.agg { toList := [Value.string k3, Value.int IntKind.i64 w3] }] }
                    { toList := [] },
                  Value.slice (some { block := 0, off := 0 }) 3 3, Value.int IntKind.i64 sum,
                  Value.slice (some { block := 1, off := 0 }) 1 1, Value.int IntKind.i64 many,
                  Value.int IntKind.i64 (IntKind.i64.wrap (i + 1))]
                { next := 2, low := 2,
                  blocks :=
                    [(0,
                        Obj.cells
                          {
                            toList :=
                              [Value.int IntKind.i64 (IntKind.i64.wrap (a1 + w1)),
                                Value.int IntKind.i64 (IntKind.i64.wrap (a2 + w2)),
                                Value.int IntKind.i64 (IntKind.i64.wrap (IntKind.i64.wrap (a3 + w3) - sum))] }
                          3 (0, 0)),
                      (1, Obj.cells { toList := [Value.string k3] } 9 (0, 0))] }
          else
            NoNames (Obj.cells { toList := [Value.string k1] } 9 (0, 0)) ∧
              B
                [Value.func (Fn.yield 0)
                    {
                      toList :=
                        [Value.agg { toList := [Value.string k1, Value.int IntKind.i64 w1] },
                          Value.agg { toList := [Value.string k2, Value.int IntKind.i64 w2] },
                          Value.agg { toList := [Value.string k3, Value.int IntKind.i64 w3] }] }
                    { toList := [] },
                  Value.slice (some { block := 0, off := 0 }) 3 3, Value.int IntKind.i64 sum,
                  Value.slice (some { block := 1, off := 0 }) 1 1, Value.int IntKind.i64 many,
                  Value.int IntKind.i64 (IntKind.i64.wrap (i + 1))]
                { next := 2, low := 2,
                  blocks :=
                    [(0,
                        Obj.cells
                          {
                            toList :=
                              [Value.int IntKind.i64 (IntKind.i64.wrap (IntKind.i64.wrap (a1 + w1) - sum)),
                                Value.int IntKind.i64 (IntKind.i64.wrap (a2 + w2)),
                                Value.int IntKind.i64 (IntKind.i64.wrap (a3 + w3))] }
                          3 (0, 0)),
                      (1, Obj.cells { toList := [Value.string k1] } 9 (0, 0))] }
    else Q (AExit.exit 0) [Value.slice none 0 0] { next := 0, low := 0, blocks := [] } := by kernel_rfl
theorem rd3b (k1 k2 k3 : ByteArray) (w1 w2 w3 a1 a2 a3 sum many i : Int) (ss : List Value) (j : Nat) (B : List Value → AH → Prop) (Q : AExit → List Value → AH → Prop) : (once 0 Tryz.prog SR [(2, false)] noHooks 100 74 [0, 7, 8, 9, 28, 29] [1] [9] [0] (oneLoop (codeOf Tryz.f24) 12) [fz ⟨[.agg ⟨[.string k1, .int .i64 w1]⟩, .agg ⟨[.string k2, .int .i64 w2]⟩, .agg ⟨[.string k3, .int .i64 w3]⟩]⟩, .slice (some ⟨0, 0, none⟩) 3 3, .int .i64 sum, .slice (some ⟨1, 0, none⟩) j j, .int .i64 many, .int .i64 i] ⟨2, 2, [(0, .cells ⟨[.int .i64 a1, .int .i64 a2, .int .i64 a3]⟩ 3), (1, .cells ⟨ss⟩ 9)]⟩ B Q) =
    bif decide (i < many) then
      bif decide (IntKind.i64.wrap (a1 + w1) > IntKind.i64.wrap (a1 + w1)) then False
      else
        bif decide (IntKind.i64.wrap (a2 + w2) > IntKind.i64.wrap (a1 + w1)) then
          bif decide (IntKind.i64.wrap (a3 + w3) > IntKind.i64.wrap (a2 + w2)) then
            bif (j + 1).ble j then False
            else
              bif (j + 1).ble 9223372036854775807 && ((j + 1) * 16).ble 140737488355328 then
                bif (0 + j * 1).ble (Array.mk ss).size && true && true then
                  NoNames
                      (Obj.cells { toList := List.take (j * 1) (List.drop 0 (Array.mk ss).toList) ++ [Value.string k3] }
                        9 (0, 0)) ∧
                    B
                      [Value.func (Fn.yield 0)
                          {
                            toList :=
                              [Value.agg { toList := [Value.string k1, Value.int IntKind.i64 w1] },
                                Value.agg { toList := [Value.string k2, Value.int IntKind.i64 w2] },
                                Value.agg { toList := [Value.string k3, Value.int IntKind.i64 w3] }] }
                          { toList := [] },
                        Value.slice (some { block := 0, off := 0 }) 3 3, Value.int IntKind.i64 sum,
                        Value.slice (some { block := 1, off := 0 }) (j + 1) (j + 1), Value.int IntKind.i64 many,
                        Value.int IntKind.i64 (IntKind.i64.wrap (i + 1))]
                      { next := 2, low := 2,
                        blocks :=
                          [(0,
                              Obj.cells
                                {
                                  toList :=
                                    [Value.int IntKind.i64 (IntKind.i64.wrap (a1 + w1)),
                                      Value.int IntKind.i64 (IntKind.i64.wrap (a2 + w2)),
                                      Value.int IntKind.i64 (IntKind.i64.wrap (IntKind.i64.wrap (a3 + w3) - sum))] }
                                3 (0, 0)),
                            (1,
                              Obj.cells
                                { toList := List.take (j * 1) (List.drop 0 (Array.mk ss).toList) ++ [Value.string k3] } 9
                                (0, 0))] }
                else False
              else False
          else
            bif (j + 1).ble j then False
            else
              bif (j + 1).ble 9223372036854775807 && ((j + 1) * 16).ble 140737488355328 then
                bif (0 + j * 1).ble (Array.mk ss).size && true && true then
                  NoNames
                      (Obj.cells { toList := List.take (j * 1) (List.drop 0 (Array.mk ss).toList) ++ [Value.string k2] }
                        9 (0, 0)) ∧
                    B
                      [Value.func (Fn.yield 0)
                          {
                            toList :=
                              [Value.agg { toList := [Value.string k1, Value.int IntKind.i64 w1] },
                                Value.agg { toList := [Value.string k2, Value.int IntKind.i64 w2] },
                                Value.agg { toList := [Value.string k3, Value.int IntKind.i64 w3] }] }
                          { toList := [] },
                        Value.slice (some { block := 0, off := 0 }) 3 3, Value.int IntKind.i64 sum,
                        Value.slice (some { block := 1, off := 0 }) (j + 1) (j + 1), Value.int IntKind.i64 many,
                        Value.int IntKind.i64 (IntKind.i64.wrap (i + 1))]
                      { next := 2, low := 2,
                        blocks :=
                          [(0,
                              Obj.cells
                                {
                                  toList :=
                                    [Value.int IntKind.i64 (IntKind.i64.wrap (a1 + w1)),
                                      Value.int IntKind.i64 (IntKind.i64.wrap (IntKind.i64.wrap (a2 + w2) - sum)),
                                      Value.int IntKind.i64 (IntKind.i64.wrap (a3 + w3))] }
                                3 (0, 0)),
                            (1,
                              Obj.cells
                                { toList := List.take (j * 1) (List.drop 0 (Array.mk ss).toList) ++ [Value.string k2] } 9
                                (0, 0))] }
                else False
              else False
        else
          bif decide (IntKind.i64.wrap (a3 + w3) > IntKind.i64.wrap (a1 + w1)) then
            bif (j + 1).ble j then False
            else
              bif (j + 1).ble 9223372036854775807 && ((j + 1) * 16).ble 140737488355328 then
                bif (0 + j * 1).ble (Array.mk ss).size && true && true then
                  NoNames
                      (Obj.cells { toList := List.take (j * 1) (List.drop 0 (Array.mk ss).toList) ++ [Value.string k3] }
                        9 (0, 0)) ∧
                    B
                      [Value.func (Fn.yield 0)
                          {
                            toList :=
                              [Value.agg { toList := [Value.string k1, Value.int IntKind.i64 w1] },
                                Value.agg { toList := [Value.string k2, Value.int IntKind.i64 w2] },
                                Value.agg { toList := [Value.string k3, Value.int IntKind.i64 w3] }] }
                          { toList := [] },
                        Value.slice (some { block := 0, off := 0 }) 3 3, Value.int IntKind.i64 sum,
                        Value.slice (some { block := 1, off := 0 }) (j + 1) (j + 1), Value.int IntKind.i64 many,
                        Value.int IntKind.i64 (IntKind.i64.wrap (i + 1))]
                      { next := 2, low := 2,
                        blocks :=
                          [(0,
                              Obj.cells
                                {
                                  toList :=
                                    [Value.int IntKind.i64 (IntKind.i64.wrap (a1 + w1)),
                                      Value.int IntKind.i64 (IntKind.i64.wrap (a2 + w2)),
                                      Value.int IntKind.i64 (IntKind.i64.wrap (IntKind.i64.wrap (a3 + w3) - sum))] }
                                3 (0, 0)),
                            (1,
                              Obj.cells
                                { toList := List.take (j * 1) (List.drop 0 (Array.mk ss).toList) ++ [Value.string k3] } 9
                                (0, 0))] }
                else False
              else False
          else
            bif (j + 1).ble j then False
            else
              bif (j + 1).ble 9223372036854775807 && ((j + 1) * 16).ble 140737488355328 then
                bif (0 + j * 1).ble (Array.mk ss).size && true && true then
                  NoNames
                      (Obj.cells { toList := List.take (j * 1) (List.drop 0 (Array.mk ss).toList) ++ [Value.string k1] }
                        9 (0, 0)) ∧
                    B
                      [Value.func (Fn.yield 0)
                          {
                            toList :=
                              [Value.agg { toList := [Value.string k1, Value.int IntKind.i64 w1] },
                                Value.agg { toList := [Value.string k2, Value.int IntKind.i64 w2] },
                                Value.agg { toList := [Value.string k3, Value.int IntKind.i64 w3] }] }
                          { toList := [] },
                        Value.slice (some { block := 0, off := 0 }) 3 3, Value.int IntKind.i64 sum,
                        Value.slice (some { block := 1, off := 0 }) (j + 1) (j + 1), Value.int IntKind.i64 many,
                        Value.int IntKind.i64 (IntKind.i64.wrap (i + 1))]
                      { next := 2, low := 2,
                        blocks :=
                          [(0,
                              Obj.cells
                                {
                                  toList :=
                                    [Value.int IntKind.i64 (IntKind.i64.wrap (IntKind.i64.wrap (a1 + w1) - sum)),
                                      Value.int IntKind.i64 (IntKind.i64.wrap (a2 + w2)),
                                      Value.int IntKind.i64 (IntKind.i64.wrap (a3 + w3))] }
                                3 (0, 0)),
                            (1,
                              Obj.cells
                                { toList := List.take (j * 1) (List.drop 0 (Array.mk ss).toList) ++ [Value.string k1] } 9
                                (0, 0))] }
                else False
              else False
    else
      NoNames (Obj.cells { toList := ss } 9 (0, 0)) ∧
        Q (AExit.exit 0) [Value.slice (some { block := 0, off := 0 }) j j]
          { next := 1, low := 1, blocks := [(0, Obj.cells { toList := ss } 9 (0, 0))] } := by kernel_rfl
theorem rd4a (k1 k2 k3 k4 : ByteArray) (w1 w2 w3 w4 a1 a2 a3 a4 sum many i : Int) (B : List Value → AH → Prop) (Q : AExit → List Value → AH → Prop) : (once 0 Tryz.prog SR [(2, false)] noHooks 100 74 [0, 7, 8, 9, 28, 29] [1] [9] [0] (oneLoop (codeOf Tryz.f24) 12) [fz ⟨[.agg ⟨[.string k1, .int .i64 w1]⟩, .agg ⟨[.string k2, .int .i64 w2]⟩, .agg ⟨[.string k3, .int .i64 w3]⟩, .agg ⟨[.string k4, .int .i64 w4]⟩]⟩, .slice (some ⟨0, 0, none⟩) 4 4, .int .i64 sum, .slice none 0 0, .int .i64 many, .int .i64 i] ⟨1, 1, [(0, .cells ⟨[.int .i64 a1, .int .i64 a2, .int .i64 a3, .int .i64 a4]⟩ 3)]⟩ B Q) =
    bif decide (i < many) then
      bif decide (IntKind.i64.wrap (a1 + w1) > IntKind.i64.wrap (a1 + w1)) then False
      else
        bif decide (IntKind.i64.wrap (a2 + w2) > IntKind.i64.wrap (a1 + w1)) then
          bif decide (IntKind.i64.wrap (a3 + w3) > IntKind.i64.wrap (a2 + w2)) then
            bif decide (IntKind.i64.wrap (a4 + w4) > IntKind.i64.wrap (a3 + w3)) then
              NoNames (Obj.cells { toList := [Value.string k4] } 9 (0, 0)) ∧
                B
                  [Value.func (Fn.yield 0)
                      {
                        toList :=
                          [Value.agg { toList := [Value.string k1, Value.int IntKind.i64 w1] },
                            Value.agg { toList := [Value.string k2, Value.int IntKind.i64 w2] },
                            Value.agg { toList := [Value.string k3, Value.int IntKind.i64 w3] },
                            Value.agg { toList := [Value.string k4, Value.int IntKind.i64 w4] }] }
                      { toList := [] },
                    Value.slice (some { block := 0, off := 0 }) 4 4, Value.int IntKind.i64 sum,
                    Value.slice (some { block := 1, off := 0 }) 1 1, Value.int IntKind.i64 many,
                    Value.int IntKind.i64 (IntKind.i64.wrap (i + 1))]
                  { next := 2, low := 2,
                    blocks :=
                      [(0,
                          Obj.cells
                            {
                              toList :=
                                [Value.int IntKind.i64 (IntKind.i64.wrap (a1 + w1)),
                                  Value.int IntKind.i64 (IntKind.i64.wrap (a2 + w2)),
                                  Value.int IntKind.i64 (IntKind.i64.wrap (a3 + w3)),
                                  Value.int IntKind.i64 (IntKind.i64.wrap (IntKind.i64.wrap (a4 + w4) - sum))] }
                            3 (0, 0)),
                        (1, Obj.cells { toList := [Value.string k4] } 9 (0, 0))] }
            else
              NoNames (Obj.cells { toList := [Value.string k3] } 9 (0, 0)) ∧
                B
                  [Value.func (Fn.yield 0)
                      {
                        toList :=
                          [Value.agg { toList := [Value.string k1, Value.int IntKind.i64 w1] },
                            Value.agg { toList := [Value.string k2, Value.int IntKind.i64 w2] },
                            Value.agg { toList := [Value.string k3, Value.int IntKind.i64 w3] },
                            Value.agg { toList := [Value.string k4, Value.int IntKind.i64 w4] }] }
                      { toList := [] },
                    Value.slice (some { block := 0, off := 0 }) 4 4, Value.int IntKind.i64 sum,
                    Value.slice (some { block := 1, off := 0 }) 1 1, Value.int IntKind.i64 many,
                    Value.int IntKind.i64 (IntKind.i64.wrap (i + 1))]
                  { next := 2, low := 2,
                    blocks :=
                      [(0,
                          Obj.cells
                            {
                              toList :=
                                [Value.int IntKind.i64 (IntKind.i64.wrap (a1 + w1)),
                                  Value.int IntKind.i64 (IntKind.i64.wrap (a2 + w2)),
                                  Value.int IntKind.i64 (IntKind.i64.wrap (IntKind.i64.wrap (a3 + w3) - sum)),
                                  Value.int IntKind.i64 (IntKind.i64.wrap (a4 + w4))] }
                            3 (0, 0)),
                        (1, Obj.cells { toList := [Value.string k3] } 9 (0, 0))] }
          else
            bif decide (IntKind.i64.wrap (a4 + w4) > IntKind.i64.wrap (a2 + w2)) then
              NoNames (Obj.cells { toList := [Value.string k4] } 9 (0, 0)) ∧
                B
                  [Value.func (Fn.yield 0)
                      {
                        toList :=
                          [Value.agg { toList := [Value.string k1, Value.int IntKind.i64 w1] },
                            Value.agg { toList := [Value.string k2, Value.int IntKind.i64 w2] },
                            Value.agg { toList := [Value.string k3, Value.int IntKind.i64 w3] },
                            Value.agg { toList := [Value.string k4, Value.int IntKind.i64 w4] }] }
                      { toList := [] },
                    Value.slice (some { block := 0, off := 0 }) 4 4, Value.int IntKind.i64 sum,
                    Value.slice (some { block := 1, off := 0 }) 1 1, Value.int IntKind.i64 many,
                    Value.int IntKind.i64 (IntKind.i64.wrap (i + 1))]
                  { next := 2, low := 2,
                    blocks :=
                      [(0,
                          Obj.cells
                            {
                              toList :=
                                [Value.int IntKind.i64 (IntKind.i64.wrap (a1 + w1)),
                                  Value.int IntKind.i64 (IntKind.i64.wrap (a2 + w2)),
                                  Value.int IntKind.i64 (IntKind.i64.wrap (a3 + w3)),
                                  Value.int IntKind.i64 (IntKind.i64.wrap (IntKind.i64.wrap (a4 + w4) - sum))] }
                            3 (0, 0)),
                        (1, Obj.cells { toList := [Value.string k4] } 9 (0, 0))] }
            else
              NoNames (Obj.cells { toList := [Value.string k2] } 9 (0, 0)) ∧
                B
                  [Value.func (Fn.yield 0)
                      {
                        toList :=
                          [Value.agg { toList := [Value.string k1, Value.int IntKind.i64 w1] },
                            Value.agg { toList := [Value.string k2, Value.int IntKind.i64 w2] },
                            Value.agg { toList := [Value.string k3, Value.int IntKind.i64 w3] },
                            Value.agg { toList := [Value.string k4, Value.int IntKind.i64 w4] }] }
                      { toList := [] },
                    Value.slice (some { block := 0, off := 0 }) 4 4, Value.int IntKind.i64 sum,
                    Value.slice (some { block := 1, off := 0 }) 1 1, Value.int IntKind.i64 many,
                    Value.int IntKind.i64 (IntKind.i64.wrap (i + 1))]
                  { next := 2, low := 2,
                    blocks :=
                      [(0,
                          Obj.cells
                            {
                              toList :=
                                [Value.int IntKind.i64 (IntKind.i64.wrap (a1 + w1)),
                                  Value.int IntKind.i64 (IntKind.i64.wrap (IntKind.i64.wrap (a2 + w2) - sum)),
                                  Value.int IntKind.i64 (IntKind.i64.wrap (a3 + w3)),
                                  Value.int IntKind.i64 (IntKind.i64.wrap (a4 + w4))] }
                            3 (0, 0)),
                        (1, Obj.cells { toList := [Value.string k2] } 9 (0, 0))] }
        else
          bif decide (IntKind.i64.wrap (a3 + w3) > IntKind.i64.wrap (a1 + w1)) then
            bif decide (IntKind.i64.wrap (a4 + w4) > IntKind.i64.wrap (a3 + w3)) then
              NoNames (Obj.cells { toList := [Value.string k4] } 9 (0, 0)) ∧
                B
                  [Value.func (Fn.yield 0)
                      {
                        toList :=
                          [Value.agg { toList := [Value.string k1, Value.int IntKind.i64 w1] },
                            Value.agg { toList := [Value.string k2, Value.int IntKind.i64 w2] },
                            Value.agg { toList := [Value.string k3, Value.int IntKind.i64 w3] },
                            Value.agg { toList := [Value.string k4, Value.int IntKind.i64 w4] }] }
                      { toList := [] },
                    Value.slice (some { block := 0, off := 0 }) 4 4, Value.int IntKind.i64 sum,
                    Value.slice (some { block := 1, off := 0 }) 1 1, Value.int IntKind.i64 many,
                    Value.int IntKind.i64 (IntKind.i64.wrap (i + 1))]
                  { next := 2, low := 2,
                    blocks :=
                      [(0,
                          Obj.cells
                            {
                              toList :=
                                [Value.int IntKind.i64 (IntKind.i64.wrap (a1 + w1)),
                                  Value.int IntKind.i64 (IntKind.i64.wrap (a2 + w2)),
                                  Value.int IntKind.i64 (IntKind.i64.wrap (a3 + w3)),
                                  Value.int IntKind.i64 (IntKind.i64.wrap (IntKind.i64.wrap (a4 + w4) - sum))] }
                            3 (0, 0)),
                        (1, Obj.cells { toList := [Value.string k4] } 9 (0, 0))] }
            else
              NoNames (Obj.cells { toList := [Value.string k3] } 9 (0, 0)) ∧
                B
                  [Value.func (Fn.yield 0)
                      {
                        toList :=
                          [Value.agg { toList := [Value.string k1, Value.int IntKind.i64 w1] },
                            Value.agg { toList := [Value.string k2, Value.int IntKind.i64 w2] },
                            Value.agg { toList := [Value.string k3, Value.int IntKind.i64 w3] },
                            Value.agg { toList := [Value.string k4, Value.int IntKind.i64 w4] }] }
                      { toList := [] },
                    Value.slice (some { block := 0, off := 0 }) 4 4, Value.int IntKind.i64 sum,
                    Value.slice (some { block := 1, off := 0 }) 1 1, Value.int IntKind.i64 many,
                    Value.int IntKind.i64 (IntKind.i64.wrap (i + 1))]
                  { next := 2, low := 2,
                    blocks :=
                      [(0,
                          Obj.cells
                            {
                              toList :=
                                [Value.int IntKind.i64 (IntKind.i64.wrap (a1 + w1)),
                                  Value.int IntKind.i64 (IntKind.i64.wrap (a2 + w2)),
                                  Value.int IntKind.i64 (IntKind.i64.wrap (IntKind.i64.wrap (a3 + w3) - sum)),
                                  Value.int IntKind.i64 (IntKind.i64.wrap (a4 + w4))] }
                            3 (0, 0)),
                        (1, Obj.cells { toList := [Value.string k3] } 9 (0, 0))] }
          else
            bif decide (IntKind.i64.wrap (a4 + w4) > IntKind.i64.wrap (a1 + w1)) then
              NoNames (Obj.cells { toList := [Value.string k4] } 9 (0, 0)) ∧
                B
                  [Value.func (Fn.yield 0)
                      {
                        toList :=
                          [Value.agg { toList := [Value.string k1, Value.int IntKind.i64 w1] },
                            Value.agg { toList := [Value.string k2, Value.int IntKind.i64 w2] },
                            Value.agg { toList := [Value.string k3, Value.int IntKind.i64 w3] },
                            Value.agg { toList := [Value.string k4, Value.int IntKind.i64 w4] }] }
                      { toList := [] },
                    Value.slice (some { block := 0, off := 0 }) 4 4, Value.int IntKind.i64 sum,
                    Value.slice (some { block := 1, off := 0 }) 1 1, Value.int IntKind.i64 many,
                    Value.int IntKind.i64 (IntKind.i64.wrap (i + 1))]
                  { next := 2, low := 2,
                    blocks :=
                      [(0,
                          Obj.cells
                            {
                              toList :=
                                [Value.int IntKind.i64 (IntKind.i64.wrap (a1 + w1)),
                                  Value.int IntKind.i64 (IntKind.i64.wrap (a2 + w2)),
                                  Value.int IntKind.i64 (IntKind.i64.wrap (a3 + w3)),
                                  Value.int IntKind.i64 (IntKind.i64.wrap (IntKind.i64.wrap (a4 + w4) - sum))] }
                            3 (0, 0)),
                        (1, Obj.cells { toList := [Value.string k4] } 9 (0, 0))] }
            else
              NoNames (Obj.cells { toList := [Value.string k1] } 9 (0, 0)) ∧
                B
                  [Value.func (Fn.yield 0)
                      {
                        toList :=
                          [Value.agg { toList := [Value.string k1, Value.int IntKind.i64 w1] },
                            Value.agg { toList := [Value.string k2, Value.int IntKind.i64 w2] },
                            Value.agg { toList := [Value.string k3, Value.int IntKind.i64 w3] },
                            Value.agg { toList := [Value.string k4, Value.int IntKind.i64 w4] }] }
                      { toList := [] },
                    Value.slice (some { block := 0, off := 0 }) 4 4, Value.int IntKind.i64 sum,
                    Value.slice (some { block := 1, off := 0 }) 1 1, Value.int IntKind.i64 many,
                    Value.int IntKind.i64 (IntKind.i64.wrap (i + 1))]
                  { next := 2, low := 2,
                    blocks :=
                      [(0,
                          Obj.cells
                            {
                              toList :=
                                [Value.int IntKind.i64 (IntKind.i64.wrap (IntKind.i64.wrap (a1 + w1) - sum)),
                                  Value.int IntKind.i64 (IntKind.i64.wrap (a2 + w2)),
                                  Value.int IntKind.i64 (IntKind.i64.wrap (a3 + w3)),
                                  Value.int IntKind.i64 (IntKind.i64.wrap (a4 + w4))] }
                            3 (0, 0)),
                        (1, Obj.cells { toList := [Value.string k1] } 9 (0, 0))] }
    else Q (AExit.exit 0) [Value.slice none 0 0] { next := 0, low := 0, blocks := [] } := by kernel_rfl
theorem rd4b (k1 k2 k3 k4 : ByteArray) (w1 w2 w3 w4 a1 a2 a3 a4 sum many i : Int) (ss : List Value) (j : Nat) (B : List Value → AH → Prop) (Q : AExit → List Value → AH → Prop) : (once 0 Tryz.prog SR [(2, false)] noHooks 100 74 [0, 7, 8, 9, 28, 29] [1] [9] [0] (oneLoop (codeOf Tryz.f24) 12) [fz ⟨[.agg ⟨[.string k1, .int .i64 w1]⟩, .agg ⟨[.string k2, .int .i64 w2]⟩, .agg ⟨[.string k3, .int .i64 w3]⟩, .agg ⟨[.string k4, .int .i64 w4]⟩]⟩, .slice (some ⟨0, 0, none⟩) 4 4, .int .i64 sum, .slice (some ⟨1, 0, none⟩) j j, .int .i64 many, .int .i64 i] ⟨2, 2, [(0, .cells ⟨[.int .i64 a1, .int .i64 a2, .int .i64 a3, .int .i64 a4]⟩ 3), (1, .cells ⟨ss⟩ 9)]⟩ B Q) =
    bif decide (i < many) then
      bif decide (IntKind.i64.wrap (a1 + w1) > IntKind.i64.wrap (a1 + w1)) then False
      else
        bif decide (IntKind.i64.wrap (a2 + w2) > IntKind.i64.wrap (a1 + w1)) then
          bif decide (IntKind.i64.wrap (a3 + w3) > IntKind.i64.wrap (a2 + w2)) then
            bif decide (IntKind.i64.wrap (a4 + w4) > IntKind.i64.wrap (a3 + w3)) then
              bif (j + 1).ble j then False
              else
                bif (j + 1).ble 9223372036854775807 && ((j + 1) * 16).ble 140737488355328 then
                  bif (0 + j * 1).ble (Array.mk ss).size && true && true then
                    NoNames
                        (Obj.cells
                          { toList := List.take (j * 1) (List.drop 0 (Array.mk ss).toList) ++ [Value.string k4] } 9
                          (0, 0)) ∧
                      B
                        [Value.func (Fn.yield 0)
                            {
                              toList :=
                                [Value.agg { toList := [Value.string k1, Value.int IntKind.i64 w1] },
                                  Value.agg { toList := [Value.string k2, Value.int IntKind.i64 w2] },
                                  Value.agg { toList := [Value.string k3, Value.int IntKind.i64 w3] },
                                  Value.agg { toList := [Value.string k4, Value.int IntKind.i64 w4] }] }
                            { toList := [] },
                          Value.slice (some { block := 0, off := 0 }) 4 4, Value.int IntKind.i64 sum,
                          Value.slice (some { block := 1, off := 0 }) (j + 1) (j + 1), Value.int IntKind.i64 many,
                          Value.int IntKind.i64 (IntKind.i64.wrap (i + 1))]
                        { next := 2, low := 2,
                          blocks :=
                            [(0,
                                Obj.cells
                                  {
                                    toList :=
                                      [Value.int IntKind.i64 (IntKind.i64.wrap (a1 + w1)),
                                        Value.int IntKind.i64 (IntKind.i64.wrap (a2 + w2)),
                                        Value.int IntKind.i64 (IntKind.i64.wrap (a3 + w3)),
                                        Value.int IntKind.i64 (IntKind.i64.wrap (IntKind.i64.wrap (a4 + w4) - sum))] }
                                  3 (0, 0)),
                              (1,
                                Obj.cells
                                  { toList := List.take (j * 1) (List.drop 0 (Array.mk ss).toList) ++ [Value.string k4] }
                                  9 (0, 0))] }
                  else False
                else False
            else
              bif (j + 1).ble j then False
              else
                bif (j + 1).ble 9223372036854775807 && ((j + 1) * 16).ble 140737488355328 then
                  bif (0 + j * 1).ble (Array.mk ss).size && true && true then
                    NoNames
                        (Obj.cells
                          { toList := List.take (j * 1) (List.drop 0 (Array.mk ss).toList) ++ [Value.string k3] } 9
                          (0, 0)) ∧
                      B
                        [Value.func (Fn.yield 0)
                            {
                              toList :=
                                [Value.agg { toList := [Value.string k1, Value.int IntKind.i64 w1] },
                                  Value.agg { toList := [Value.string k2, Value.int IntKind.i64 w2] },
                                  Value.agg { toList := [Value.string k3, Value.int IntKind.i64 w3] },
                                  Value.agg { toList := [Value.string k4, Value.int IntKind.i64 w4] }] }
                            { toList := [] },
                          Value.slice (some { block := 0, off := 0 }) 4 4, Value.int IntKind.i64 sum,
                          Value.slice (some { block := 1, off := 0 }) (j + 1) (j + 1), Value.int IntKind.i64 many,
                          Value.int IntKind.i64 (IntKind.i64.wrap (i + 1))]
                        { next := 2, low := 2,
                          blocks :=
                            [(0,
                                Obj.cells
                                  {
                                    toList :=
                                      [Value.int IntKind.i64 (IntKind.i64.wrap (a1 + w1)),
                                        Value.int IntKind.i64 (IntKind.i64.wrap (a2 + w2)),
                                        Value.int IntKind.i64 (IntKind.i64.wrap (IntKind.i64.wrap (a3 + w3) - sum)),
                                        Value.int IntKind.i64 (IntKind.i64.wrap (a4 + w4))] }
                                  3 (0, 0)),
                              (1,
                                Obj.cells
                                  { toList := List.take (j * 1) (List.drop 0 (Array.mk ss).toList) ++ [Value.string k3] }
                                  9 (0, 0))] }
                  else False
                else False
          else
            bif decide (IntKind.i64.wrap (a4 + w4) > IntKind.i64.wrap (a2 + w2)) then
              bif (j + 1).ble j then False
              else
                bif (j + 1).ble 9223372036854775807 && ((j + 1) * 16).ble 140737488355328 then
                  bif (0 + j * 1).ble (Array.mk ss).size && true && true then
                    NoNames
                        (Obj.cells
                          { toList := List.take (j * 1) (List.drop 0 (Array.mk ss).toList) ++ [Value.string k4] } 9
                          (0, 0)) ∧
                      B
                        [Value.func (Fn.yield 0)
                            {
                              toList :=
                                [Value.agg { toList := [Value.string k1, Value.int IntKind.i64 w1] },
                                  Value.agg { toList := [Value.string k2, Value.int IntKind.i64 w2] },
                                  Value.agg { toList := [Value.string k3, Value.int IntKind.i64 w3] },
                                  Value.agg { toList := [Value.string k4, Value.int IntKind.i64 w4] }] }
                            { toList := [] },
                          Value.slice (some { block := 0, off := 0 }) 4 4, Value.int IntKind.i64 sum,
                          Value.slice (some { block := 1, off := 0 }) (j + 1) (j + 1), Value.int IntKind.i64 many,
                          Value.int IntKind.i64 (IntKind.i64.wrap (i + 1))]
                        { next := 2, low := 2,
                          blocks :=
                            [(0,
                                Obj.cells
                                  {
                                    toList :=
                                      [Value.int IntKind.i64 (IntKind.i64.wrap (a1 + w1)),
                                        Value.int IntKind.i64 (IntKind.i64.wrap (a2 + w2)),
                                        Value.int IntKind.i64 (IntKind.i64.wrap (a3 + w3)),
                                        Value.int IntKind.i64 (IntKind.i64.wrap (IntKind.i64.wrap (a4 + w4) - sum))] }
                                  3 (0, 0)),
                              (1,
                                Obj.cells
                                  { toList := List.take (j * 1) (List.drop 0 (Array.mk ss).toList) ++ [Value.string k4] }
                                  9 (0, 0))] }
                  else False
                else False
            else
              bif (j + 1).ble j then False
              else
                bif (j + 1).ble 9223372036854775807 && ((j + 1) * 16).ble 140737488355328 then
                  bif (0 + j * 1).ble (Array.mk ss).size && true && true then
                    NoNames
                        (Obj.cells
                          { toList := List.take (j * 1) (List.drop 0 (Array.mk ss).toList) ++ [Value.string k2] } 9
                          (0, 0)) ∧
                      B
                        [Value.func (Fn.yield 0)
                            {
                              toList :=
                                [Value.agg { toList := [Value.string k1, Value.int IntKind.i64 w1] },
                                  Value.agg { toList := [Value.string k2, Value.int IntKind.i64 w2] },
                                  Value.agg { toList := [Value.string k3, Value.int IntKind.i64 w3] },
                                  Value.agg { toList := [Value.string k4, Value.int IntKind.i64 w4] }] }
                            { toList := [] },
                          Value.slice (some { block := 0, off := 0 }) 4 4, Value.int IntKind.i64 sum,
                          Value.slice (some { block := 1, off := 0 }) (j + 1) (j + 1), Value.int IntKind.i64 many,
                          Value.int IntKind.i64 (IntKind.i64.wrap (i + 1))]
                        { next := 2, low := 2,
                          blocks :=
                            [(0,
                                Obj.cells
                                  {
                                    toList :=
                                      [Value.int IntKind.i64 (IntKind.i64.wrap (a1 + w1)),
                                        Value.int IntKind.i64 (IntKind.i64.wrap (IntKind.i64.wrap (a2 + w2) - sum)),
                                        Value.int IntKind.i64 (IntKind.i64.wrap (a3 + w3)),
                                        Value.int IntKind.i64 (IntKind.i64.wrap (a4 + w4))] }
                                  3 (0, 0)),
                              (1,
                                Obj.cells
                                  { toList := List.take (j * 1) (List.drop 0 (Array.mk ss).toList) ++ [Value.string k2] }
                                  9 (0, 0))] }
                  else False
                else False
        else
          bif decide (IntKind.i64.wrap (a3 + w3) > IntKind.i64.wrap (a1 + w1)) then
            bif decide (IntKind.i64.wrap (a4 + w4) > IntKind.i64.wrap (a3 + w3)) then
              bif (j + 1).ble j then False
              else
                bif (j + 1).ble 9223372036854775807 && ((j + 1) * 16).ble 140737488355328 then
                  bif (0 + j * 1).ble (Array.mk ss).size && true && true then
                    NoNames
                        (Obj.cells
                          { toList := List.take (j * 1) (List.drop 0 (Array.mk ss).toList) ++ [Value.string k4] } 9
                          (0, 0)) ∧
                      B
                        [Value.func (Fn.yield 0)
                            {
                              toList :=
                                [Value.agg { toList := [Value.string k1, Value.int IntKind.i64 w1] },
                                  Value.agg { toList := [Value.string k2, Value.int IntKind.i64 w2] },
                                  Value.agg { toList := [Value.string k3, Value.int IntKind.i64 w3] },
                                  Value.agg { toList := [Value.string k4, Value.int IntKind.i64 w4] }] }
                            { toList := [] },
                          Value.slice (some { block := 0, off := 0 }) 4 4, Value.int IntKind.i64 sum,
                          Value.slice (some { block := 1, off := 0 }) (j + 1) (j + 1), Value.int IntKind.i64 many,
                          Value.int IntKind.i64 (IntKind.i64.wrap (i + 1))]
                        { next := 2, low := 2,
                          blocks :=
                            [(0,
                                Obj.cells
                                  {
                                    toList :=
                                      [Value.int IntKind.i64 (IntKind.i64.wrap (a1 + w1)),
                                        Value.int IntKind.i64 (IntKind.i64.wrap (a2 + w2)),
                                        Value.int IntKind.i64 (IntKind.i64.wrap (a3 + w3)),
                                        Value.int IntKind.i64 (IntKind.i64.wrap (IntKind.i64.wrap (a4 + w4) - sum))] }
                                  3 (0, 0)),
                              (1,
                                Obj.cells
                                  { toList := List.take (j * 1) (List.drop 0 (Array.mk ss).toList) ++ [Value.string k4] }
                                  9 (0, 0))] }
                  else False
                else False
            else
              bif (j + 1).ble j then False
              else
                bif (j + 1).ble 9223372036854775807 && ((j + 1) * 16).ble 140737488355328 then
                  bif (0 + j * 1).ble (Array.mk ss).size && true && true then
                    NoNames
                        (Obj.cells
                          { toList := List.take (j * 1) (List.drop 0 (Array.mk ss).toList) ++ [Value.string k3] } 9
                          (0, 0)) ∧
                      B
                        [Value.func (Fn.yield 0)
                            {
                              toList :=
                                [Value.agg { toList := [Value.string k1, Value.int IntKind.i64 w1] },
                                  Value.agg { toList := [Value.string k2, Value.int IntKind.i64 w2] },
                                  Value.agg { toList := [Value.string k3, Value.int IntKind.i64 w3] },
                                  Value.agg { toList := [Value.string k4, Value.int IntKind.i64 w4] }] }
                            { toList := [] },
                          Value.slice (some { block := 0, off := 0 }) 4 4, Value.int IntKind.i64 sum,
                          Value.slice (some { block := 1, off := 0 }) (j + 1) (j + 1), Value.int IntKind.i64 many,
                          Value.int IntKind.i64 (IntKind.i64.wrap (i + 1))]
                        { next := 2, low := 2,
                          blocks :=
                            [(0,
                                Obj.cells
                                  {
                                    toList :=
                                      [Value.int IntKind.i64 (IntKind.i64.wrap (a1 + w1)),
                                        Value.int IntKind.i64 (IntKind.i64.wrap (a2 + w2)),
                                        Value.int IntKind.i64 (IntKind.i64.wrap (IntKind.i64.wrap (a3 + w3) - sum)),
                                        Value.int IntKind.i64 (IntKind.i64.wrap (a4 + w4))] }
                                  3 (0, 0)),
                              (1,
                                Obj.cells
                                  { toList := List.take (j * 1) (List.drop 0 (Array.mk ss).toList) ++ [Value.string k3] }
                                  9 (0, 0))] }
                  else False
                else False
          else
            bif decide (IntKind.i64.wrap (a4 + w4) > IntKind.i64.wrap (a1 + w1)) then
              bif (j + 1).ble j then False
              else
                bif (j + 1).ble 9223372036854775807 && ((j + 1) * 16).ble 140737488355328 then
                  bif (0 + j * 1).ble (Array.mk ss).size && true && true then
                    NoNames
                        (Obj.cells
                          { toList := List.take (j * 1) (List.drop 0 (Array.mk ss).toList) ++ [Value.string k4] } 9
                          (0, 0)) ∧
                      B
                        [Value.func (Fn.yield 0)
                            {
                              toList :=
                                [Value.agg { toList := [Value.string k1, Value.int IntKind.i64 w1] },
                                  Value.agg { toList := [Value.string k2, Value.int IntKind.i64 w2] },
                                  Value.agg { toList := [Value.string k3, Value.int IntKind.i64 w3] },
                                  Value.agg { toList := [Value.string k4, Value.int IntKind.i64 w4] }] }
                            { toList := [] },
                          Value.slice (some { block := 0, off := 0 }) 4 4, Value.int IntKind.i64 sum,
                          Value.slice (some { block := 1, off := 0 }) (j + 1) (j + 1), Value.int IntKind.i64 many,
                          Value.int IntKind.i64 (IntKind.i64.wrap (i + 1))]
                        { next := 2, low := 2,
                          blocks :=
                            [(0,
                                Obj.cells
                                  {
                                    toList :=
                                      [Value.int IntKind.i64 (IntKind.i64.wrap (a1 + w1)),
                                        Value.int IntKind.i64 (IntKind.i64.wrap (a2 + w2)),
                                        Value.int IntKind.i64 (IntKind.i64.wrap (a3 + w3)),
                                        Value.int IntKind.i64 (IntKind.i64.wrap (IntKind.i64.wrap (a4 + w4) - sum))] }
                                  3 (0, 0)),
                              (1,
                                Obj.cells
                                  { toList := List.take (j * 1) (List.drop 0 (Array.mk ss).toList) ++ [Value.string k4] }
                                  9 (0, 0))] }
                  else False
                else False
            else
              bif (j + 1).ble j then False
              else
                bif (j + 1).ble 9223372036854775807 && ((j + 1) * 16).ble 140737488355328 then
                  bif (0 + j * 1).ble (Array.mk ss).size && true && true then
                    NoNames
                        (Obj.cells
                          { toList := List.take (j * 1) (List.drop 0 (Array.mk ss).toList) ++ [Value.string k1] } 9
                          (0, 0)) ∧
                      B
                        [Value.func (Fn.yield 0)
                            {
                              toList :=
                                [Value.agg { toList := [Value.string k1, Value.int IntKind.i64 w1] },
                                  Value.agg { toList := [Value.string k2, Value.int IntKind.i64 w2] },
                                  Value.agg { toList := [Value.string k3, Value.int IntKind.i64 w3] },
                                  Value.agg { toList := [Value.string k4, Value.int IntKind.i64 w4] }] }
                            { toList := [] },
                          Value.slice (some { block := 0, off := 0 }) 4 4, Value.int IntKind.i64 sum,
                          Value.slice (some { block := 1, off := 0 }) (j + 1) (j + 1), Value.int IntKind.i64 many,
                          Value.int IntKind.i64 (IntKind.i64.wrap (i + 1))]
                        { next := 2, low := 2,
                          blocks :=
                            [(0,
                                Obj.cells
                                  {
                                    toList :=
                                      [Value.int IntKind.i64 (IntKind.i64.wrap (IntKind.i64.wrap (a1 + w1) - sum)),
                                        Value.int IntKind.i64 (IntKind.i64.wrap (a2 + w2)),
                                        Value.int IntKind.i64 (IntKind.i64.wrap (a3 + w3)),
                                        Value.int IntKind.i64 (IntKind.i64.wrap (a4 + w4))] }
                                  3 (0, 0)),
                              (1,
                                Obj.cells
                                  { toList := List.take (j * 1) (List.drop 0 (Array.mk ss).toList) ++ [Value.string k1] }
                                  9 (0, 0))] }
                  else False
                else False
    else
      NoNames (Obj.cells { toList := ss } 9 (0, 0)) ∧
        Q (AExit.exit 0) [Value.slice (some { block := 0, off := 0 }) j j]
          { next := 1, low := 1, blocks := [(0, Obj.cells { toList := ss } 9 (0, 0))] } := by kernel_rfl
theorem loop1 {K : AExit → List Value → AH → Prop} (k1 : ByteArray) (w1 sum : Int) (m : Nat) (h1 : 1 ≤ m) (h2 : m ≤ 2000)
    (hK : K (.exit 0) [.slice (some ⟨0, 0, none⟩) m m] ⟨1, 1, [(0, .cells ⟨(turns [w1] sum m [0]).map (keyV [k1])⟩ 9)]⟩) :
    iter 0 Tryz.prog SR [(2, false)] noHooks 100 74 [0, 7, 8, 9, 28, 29] [1] [9] [0] (oneLoop (codeOf Tryz.f24) 12) (m + 1)
      [fz ⟨[.agg ⟨[.string k1, .int .i64 w1]⟩]⟩, .slice (some ⟨0, 0, none⟩) 1 1, .int .i64 sum, .slice none 0 0, .int .i64 m, .int .i64 0] ⟨1, 1, [(0, .cells ⟨[.int .i64 0]⟩ 3)]⟩ K := by
  obtain ⟨r, rfl⟩ : ∃ r, m = r + 1 := ⟨m - 1, by omega⟩
  exact first1 (F := iter 0 Tryz.prog SR [(2, false)] noHooks 100 74 [0, 7, 8, 9, 28, 29] [1] [9] [0] (oneLoop (codeOf Tryz.f24) 12)) (K := K)
    (fun n a1 i ss j => rd1b k1 w1 a1 sum _ i ss j _ K) (fun n a1 i => rd1a k1 w1 a1 sum _ i _ K) (by omega) r 0 0 (by omega) (by omega) (by omega) hK
theorem loop2 {K : AExit → List Value → AH → Prop} (k1 k2 : ByteArray) (w1 w2 sum : Int) (m : Nat) (h1 : 1 ≤ m) (h2 : m ≤ 2000)
    (hK : K (.exit 0) [.slice (some ⟨0, 0, none⟩) m m] ⟨1, 1, [(0, .cells ⟨(turns [w1, w2] sum m [0, 0]).map (keyV [k1, k2])⟩ 9)]⟩) :
    iter 0 Tryz.prog SR [(2, false)] noHooks 100 74 [0, 7, 8, 9, 28, 29] [1] [9] [0] (oneLoop (codeOf Tryz.f24) 12) (m + 1)
      [fz ⟨[.agg ⟨[.string k1, .int .i64 w1]⟩, .agg ⟨[.string k2, .int .i64 w2]⟩]⟩, .slice (some ⟨0, 0, none⟩) 2 2, .int .i64 sum, .slice none 0 0, .int .i64 m, .int .i64 0] ⟨1, 1, [(0, .cells ⟨[.int .i64 0, .int .i64 0]⟩ 3)]⟩ K := by
  obtain ⟨r, rfl⟩ : ∃ r, m = r + 1 := ⟨m - 1, by omega⟩
  exact first2 (F := iter 0 Tryz.prog SR [(2, false)] noHooks 100 74 [0, 7, 8, 9, 28, 29] [1] [9] [0] (oneLoop (codeOf Tryz.f24) 12)) (K := K)
    (fun n a1 a2 i ss j => rd2b k1 k2 w1 w2 a1 a2 sum _ i ss j _ K) (fun n a1 a2 i => rd2a k1 k2 w1 w2 a1 a2 sum _ i _ K) (by omega) r 0 0 0 (by omega) (by omega) (by omega) hK
theorem loop3 {K : AExit → List Value → AH → Prop} (k1 k2 k3 : ByteArray) (w1 w2 w3 sum : Int) (m : Nat) (h1 : 1 ≤ m) (h2 : m ≤ 2000)
    (hK : K (.exit 0) [.slice (some ⟨0, 0, none⟩) m m] ⟨1, 1, [(0, .cells ⟨(turns [w1, w2, w3] sum m [0, 0, 0]).map (keyV [k1, k2, k3])⟩ 9)]⟩) :
    iter 0 Tryz.prog SR [(2, false)] noHooks 100 74 [0, 7, 8, 9, 28, 29] [1] [9] [0] (oneLoop (codeOf Tryz.f24) 12) (m + 1)
      [fz ⟨[.agg ⟨[.string k1, .int .i64 w1]⟩, .agg ⟨[.string k2, .int .i64 w2]⟩, .agg ⟨[.string k3, .int .i64 w3]⟩]⟩, .slice (some ⟨0, 0, none⟩) 3 3, .int .i64 sum, .slice none 0 0, .int .i64 m, .int .i64 0] ⟨1, 1, [(0, .cells ⟨[.int .i64 0, .int .i64 0, .int .i64 0]⟩ 3)]⟩ K := by
  obtain ⟨r, rfl⟩ : ∃ r, m = r + 1 := ⟨m - 1, by omega⟩
  exact first3 (F := iter 0 Tryz.prog SR [(2, false)] noHooks 100 74 [0, 7, 8, 9, 28, 29] [1] [9] [0] (oneLoop (codeOf Tryz.f24) 12)) (K := K)
    (fun n a1 a2 a3 i ss j => rd3b k1 k2 k3 w1 w2 w3 a1 a2 a3 sum _ i ss j _ K) (fun n a1 a2 a3 i => rd3a k1 k2 k3 w1 w2 w3 a1 a2 a3 sum _ i _ K) (by omega) r 0 0 0 0 (by omega) (by omega) (by omega) hK
theorem loop4 {K : AExit → List Value → AH → Prop} (k1 k2 k3 k4 : ByteArray) (w1 w2 w3 w4 sum : Int) (m : Nat) (h1 : 1 ≤ m) (h2 : m ≤ 2000)
    (hK : K (.exit 0) [.slice (some ⟨0, 0, none⟩) m m] ⟨1, 1, [(0, .cells ⟨(turns [w1, w2, w3, w4] sum m [0, 0, 0, 0]).map (keyV [k1, k2, k3, k4])⟩ 9)]⟩) :
    iter 0 Tryz.prog SR [(2, false)] noHooks 100 74 [0, 7, 8, 9, 28, 29] [1] [9] [0] (oneLoop (codeOf Tryz.f24) 12) (m + 1)
      [fz ⟨[.agg ⟨[.string k1, .int .i64 w1]⟩, .agg ⟨[.string k2, .int .i64 w2]⟩, .agg ⟨[.string k3, .int .i64 w3]⟩, .agg ⟨[.string k4, .int .i64 w4]⟩]⟩, .slice (some ⟨0, 0, none⟩) 4 4, .int .i64 sum, .slice none 0 0, .int .i64 m, .int .i64 0] ⟨1, 1, [(0, .cells ⟨[.int .i64 0, .int .i64 0, .int .i64 0, .int .i64 0]⟩ 3)]⟩ K := by
  obtain ⟨r, rfl⟩ : ∃ r, m = r + 1 := ⟨m - 1, by omega⟩
  exact first4 (F := iter 0 Tryz.prog SR [(2, false)] noHooks 100 74 [0, 7, 8, 9, 28, 29] [1] [9] [0] (oneLoop (codeOf Tryz.f24) 12)) (K := K)
    (fun n a1 a2 a3 a4 i ss j => rd4b k1 k2 k3 k4 w1 w2 w3 w4 a1 a2 a3 a4 sum _ i ss j _ K) (fun n a1 a2 a3 a4 i => rd4a k1 k2 k3 k4 w1 w2 w3 w4 a1 a2 a3 a4 sum _ i _ K) (by omega) r 0 0 0 0 0 (by omega) (by omega) (by omega) hK
end Go.Proofs.YtddhljigbchemaaGreatDoor
