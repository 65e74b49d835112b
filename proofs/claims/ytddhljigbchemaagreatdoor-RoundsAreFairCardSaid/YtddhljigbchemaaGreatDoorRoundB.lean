/-
  'Round' as a specification: with right instances it is who has the first turns.
-/
import Derived.Test.YtddhljigbchemaaGreatDoorRoundA
import Derived.Test.YtddhljigbchemaaGreatDoorRight
namespace Go.Proofs.YtddhljigbchemaaGreatDoor
open Go.Ev Go.RowKit

def sumW (ws : List Int) : Int := ws.foldl (fun s w => IntKind.i64.wrap (s + w)) 0
/-- The keys of the first turns. -/
def roundK (ks : List ByteArray) (ws : List Int) (m : Nat) : List ByteArray := (turns ws (sumW ws) m (List.replicate ws.length 0)).map fun b => ks.getD b ⟨#[]⟩
theorem turns_len (ws : List Int) (sum : Int) : ∀ (m : Nat) (al : List Int), (turns ws sum m al).length = m
  | 0, _ => rfl
  | m + 1, al => by simp [turns, turns_len ws sum m]
theorem roundK_len (ks : List ByteArray) (ws : List Int) (m : Nat) : (roundK ks ws m).length = m := by simp [roundK, turns_len]

theorem freezeS {p : Nat} {P : Program} {h : AH} {b : Nat} {t : TypeId} {fr : Nat × Nat} (l : List ByteArray) (e : Value) {m : Nat} (hm : l.length = m) (hb : h.get b = some (.cells ⟨l.map Value.string⟩ t fr)) :
    Weak p P ⟨[.slice (some ⟨b, 0, none⟩) m m, e]⟩ h ⟨[fz ⟨l.map Value.string⟩, e]⟩ (h.del b) := by
  refine Weak.freeze (n := m) (cap := m) b 1 ⟨l.map Value.string⟩ hb ?_ (by simpa using hm) (Nat.le_refl _) (by simp; omega) ?_ ?_ rfl ?_
  · intro v hv
    obtain ⟨s, _, rfl⟩ := List.mem_map.1 (show v ∈ l.map Value.string by simpa using hv)
    rfl
  · intro i x hx
    have hx : (l.map Value.string)[i]? = some x := by simpa using hx
    rw [List.getElem?_map] at hx
    obtain ⟨q, _, rfl⟩ := Option.map_eq_some_iff.1 hx
    rfl
  · intro i j x v hx hv
    have hx : (l.map Value.string)[i]? = some x := by simpa using hx
    have hx0 := hx
    rw [List.getElem?_map] at hx
    obtain ⟨q, _, rfl⟩ := Option.map_eq_some_iff.1 hx
    match j, hv with
    | 0, hv =>
      have : Value.string q = v := by simpa [Value.cells] using hv
      rw [← this, Nat.mul_one, Nat.add_zero]
      simpa using hx0
    | j + 1, hv => simp [Value.cells] at hv
  · intro i
    match i with
    | 0 => exact .inr ⟨rfl, rfl⟩
    | 1 => exact .inl rfl
    | i + 2 => exact .inl (by simp)

theorem some24 : Tryz.f24.body.isSome = true := by kernel_rfl
theorem one24 : (loopAt (codeOf Tryz.f24) 12).length = 1 := by kernel_rfl
def natsOf (s : ByteArray) : List Nat := s.data.toList.map UInt8.toNat
def beqN : List Nat → List Nat → Bool
  | [], [] => true
  | a :: l, b :: r => Nat.beq a b && beqN l r
  | _, _ => false
def beqK : List ByteArray → List ByteArray → Bool
  | [], [] => true
  | a :: l, b :: r => beqN (natsOf a) (natsOf b) && beqK l r
  | _, _ => false
theorem beqN_eq : ∀ {a b : List Nat}, beqN a b = true → a = b
  | [], [], _ => rfl
  | a :: l, b :: r, h => by
    simp only [beqN, Bool.and_eq_true] at h
    rw [Nat.eq_of_beq_eq_true h.1, beqN_eq h.2]
theorem natsOf_inj {a b : ByteArray} (h : natsOf a = natsOf b) : a = b := by
  have h1 : a.data.toList = b.data.toList := List.map_inj_right (fun x y => UInt8.toNat_inj.1) |>.1 h
  obtain ⟨⟨x⟩⟩ := a
  obtain ⟨⟨y⟩⟩ := b
  simp only at h1
  rw [h1]
theorem beqK_eq : ∀ {a b : List ByteArray}, beqK a b = true → a = b
  | [], [], _ => rfl
  | a :: l, b :: r, h => by
    simp only [beqK, Bool.and_eq_true] at h
    rw [natsOf_inj (beqN_eq h.1), beqK_eq h.2]

def ksOf (xs : List Value) : List ByteArray := xs.map fun v => toStr (v.cells.toList.getD 0 undef)
def wsOf (xs : List Value) : List Int := xs.map fun v => toInt (v.cells.toList.getD 1 undef)
def shp : Value → Bool
  | .agg ⟨[.string _, .int .i64 _]⟩ => true
  | _ => false
def rng (w : Int) : Bool := decide (1 ≤ w) && decide (w ≤ 100)
theorem shp_eq {v : Value} (h : shp v = true) : instV (toStr (v.cells.toList.getD 0 undef), toInt (v.cells.toList.getD 1 undef)) = v := by
  unfold shp at h
  split at h
  · rfl
  · cases h
theorem shp_all : ∀ {xs : List Value}, xs.all shp = true → ((ksOf xs).zip (wsOf xs)).map instV = xs
  | [], _ => rfl
  | v :: l, h => by
    simp only [List.all_cons, Bool.and_eq_true] at h
    have ih := shp_all h.2
    simp only [ksOf, wsOf, List.map_cons, List.zip_cons_cons] at ih ⊢
    rw [ih, shp_eq h.1]

def spRound (ks : List ByteArray) (f : FuncId) (args : Array Value) (h : AH) : Option (Bool × Value × AH) :=
  cond (Nat.beq f 24) (match args with
    | ⟨[.func (.yield 0) ⟨xs⟩ ⟨[]⟩, .int .i64 m]⟩ => some (xs.all shp && (wsOf xs).all rng && beqK (ksOf xs) ks && decide (1 ≤ m) && decide (m ≤ 2000), .tuple ⟨[fz ⟨(roundK ks (wsOf xs) m.toNat).map Value.string⟩, .int .i64 0]⟩, h)
    | _ => none) none

theorem spRound_ok (ks : List ByteArray) (hR : ∀ ws : List Int, ws.length = ks.length → (∀ w ∈ ws, 1 ≤ w ∧ w ≤ 100) → ∀ m : Nat, 1 ≤ m → m ≤ 2000 →
    FnOK 0 Tryz.prog 24 ⟨[fz ⟨(ks.zip ws).map instV⟩, .int .i64 m]⟩ h0 (fun v _ => v = .tuple ⟨[fz ⟨(roundK ks ws m).map Value.string⟩, .int .i64 0]⟩)) : SpOK (spRound ks) := by
  intro f args h v h' hs
  unfold spRound at hs
  obtain ⟨hf, hs2⟩ := cond_some hs
  clear hs
  have hs := hs2
  clear hs2
  have := Nat.eq_of_beq_eq_true hf
  subst this
  split at hs
  · rename_i xs m
    injection hs with hs
    injection hs with hb hs
    injection hs with hv hh
    subst hv hh
    simp only [Bool.and_eq_true, decide_eq_true_eq] at hb
    obtain ⟨⟨⟨⟨b1, b2⟩, b3⟩, b4⟩, b5⟩ := hb
    have e1 := beqK_eq b3
    have hF := hR (wsOf xs) (by rw [← e1]; simp [wsOf, ksOf]) (fun w hw => by
      have := List.all_eq_true.1 b2 w hw
      simpa [rng] using this) m.toNat (by omega) (by omega)
    rw [← e1, shp_all b1] at hF
    rw [show ((m.toNat : Nat) : Int) = m by omega] at hF
    rw [← e1]
    exact ⟨FnOK.pure hF rfl (by simp [p3, p2, p1, fz]) h, Nat.le_refl _⟩
  · cases hs

theorem ro1111 (w1 w2 w3 w4 : Int) (m : Nat) (ts : List Value) (C : List Value → AH → Prop) (Q : Value → AH → Prop) : (tfn Tryz.prog SR [(19065, false), (970665, false), (703220, false), (571124, false), (271931, false), (79069, false), (615418, false), (869590, false), (758331, false)] (hook1 12 (hookLS 0 74 [0, 7, 8, 9, 28, 29] [1] [9] (fun vals h K => C vals h ∧ K (.exit 0) [.slice (some ⟨0, 0, none⟩) m m] ⟨1, 1, [(0, .cells ⟨ts⟩ 9)]⟩))) 200 [] Tryz.f24 [fz ⟨[.agg ⟨[.string ⟨#[105, 97]⟩, .int .i64 w1]⟩, .agg ⟨[.string ⟨#[105, 98]⟩, .int .i64 w2]⟩, .agg ⟨[.string ⟨#[105, 99]⟩, .int .i64 w3]⟩, .agg ⟨[.string ⟨#[105, 100]⟩, .int .i64 w4]⟩]⟩, .int .i64 m] h0 Q) =
    bif decide (w1 < 1) then False
    else
      bif decide (w1 > 100) then False
      else
        bif decide (w2 < 1) then False
        else
          bif decide (w2 > 100) then False
          else
            bif decide (w3 < 1) then False
            else
              bif decide (w3 > 100) then False
              else
                bif decide (w4 < 1) then False
                else
                  bif decide (w4 > 100) then False
                  else
                    bif decide ((m : Int) > 2000) then False
                    else
                      C
                          [Value.func (Fn.yield 0)
                              {
                                toList :=
                                  [Value.agg { toList := [Value.string { data := #[105, 97] }, Value.int IntKind.i64 w1] },
                                    Value.agg { toList := [Value.string { data := #[105, 98] }, Value.int IntKind.i64 w2] },
                                    Value.agg { toList := [Value.string { data := #[105, 99] }, Value.int IntKind.i64 w3] },
                                    Value.agg
                                      { toList := [Value.string { data := #[105, 100] }, Value.int IntKind.i64 w4] }] }
                              { toList := [] },
                            Value.slice (some { block := 0, off := 0 }) 4 4,
                            Value.int IntKind.i64
                              (IntKind.i64.wrap
                                (IntKind.i64.wrap (IntKind.i64.wrap (IntKind.i64.wrap (0 + w1) + w2) + w3) + w4)),
                            Value.slice none 0 0, Value.int IntKind.i64 (m : Int), Value.int IntKind.i64 0]
                          { next := 1, low := 1,
                            blocks :=
                              [(0,
                                  Obj.cells
                                    {
                                      toList :=
                                        [Value.int IntKind.i64 0, Value.int IntKind.i64 0, Value.int IntKind.i64 0,
                                          Value.int IntKind.i64 0] }
                                    3 (0, 0))] } ∧
                        Q
                          (Value.tuple
                            { toList := [Value.slice (some { block := 0, off := 0 }) m m, Value.int IntKind.i64 0] })
                          { next := 1, low := 1, blocks := [(0, Obj.cells { toList := ts } 9 (0, 0))] } := by kernel_rfl
theorem ro1110 (w1 w2 w3 : Int) (m : Nat) (ts : List Value) (C : List Value → AH → Prop) (Q : Value → AH → Prop) : (tfn Tryz.prog SR [(19065, false), (970665, false), (703220, false), (571124, false), (271931, false), (79069, false), (115106, false)] (hook1 12 (hookLS 0 74 [0, 7, 8, 9, 28, 29] [1] [9] (fun vals h K => C vals h ∧ K (.exit 0) [.slice (some ⟨0, 0, none⟩) m m] ⟨1, 1, [(0, .cells ⟨ts⟩ 9)]⟩))) 200 [] Tryz.f24 [fz ⟨[.agg ⟨[.string ⟨#[105, 97]⟩, .int .i64 w1]⟩, .agg ⟨[.string ⟨#[105, 98]⟩, .int .i64 w2]⟩, .agg ⟨[.string ⟨#[105, 99]⟩, .int .i64 w3]⟩]⟩, .int .i64 m] h0 Q) =
    bif decide (w1 < 1) then False
    else
      bif decide (w1 > 100) then False
      else
        bif decide (w2 < 1) then False
        else
          bif decide (w2 > 100) then False
          else
            bif decide (w3 < 1) then False
            else
              bif decide (w3 > 100) then False
              else
                bif decide ((m : Int) > 2000) then False
                else
                  C
                      [Value.func (Fn.yield 0)
                          {
                            toList :=
                              [Value.agg { toList := [Value.string { data := #[105, 97] }, Value.int IntKind.i64 w1] },
                                Value.agg { toList := [Value.string { data := #[105, 98] }, Value.int IntKind.i64 w2] },
                                Value.agg { toList := [Value.string { data := #[105, 99] }, Value.int IntKind.i64 w3] }] }
                          { toList := [] },
                        Value.slice (some { block := 0, off := 0 }) 3 3,
                        Value.int IntKind.i64 (IntKind.i64.wrap (IntKind.i64.wrap (IntKind.i64.wrap (0 + w1) + w2) + w3)),
                        Value.slice none 0 0, Value.int IntKind.i64 (m : Int), Value.int IntKind.i64 0]
                      { next := 1, low := 1,
                        blocks :=
                          [(0,
                              Obj.cells
                                { toList := [Value.int IntKind.i64 0, Value.int IntKind.i64 0, Value.int IntKind.i64 0] } 3
                                (0, 0))] } ∧
                    Q (Value.tuple { toList := [Value.slice (some { block := 0, off := 0 }) m m, Value.int IntKind.i64 0] })
                      { next := 1, low := 1, blocks := [(0, Obj.cells { toList := ts } 9 (0, 0))] } := by kernel_rfl
theorem ro1101 (w1 w2 w3 : Int) (m : Nat) (ts : List Value) (C : List Value → AH → Prop) (Q : Value → AH → Prop) : (tfn Tryz.prog SR [(19065, false), (970665, false), (703220, false), (571124, false), (271931, false), (79069, false), (115106, false)] (hook1 12 (hookLS 0 74 [0, 7, 8, 9, 28, 29] [1] [9] (fun vals h K => C vals h ∧ K (.exit 0) [.slice (some ⟨0, 0, none⟩) m m] ⟨1, 1, [(0, .cells ⟨ts⟩ 9)]⟩))) 200 [] Tryz.f24 [fz ⟨[.agg ⟨[.string ⟨#[105, 97]⟩, .int .i64 w1]⟩, .agg ⟨[.string ⟨#[105, 98]⟩, .int .i64 w2]⟩, .agg ⟨[.string ⟨#[105, 100]⟩, .int .i64 w3]⟩]⟩, .int .i64 m] h0 Q) =
    bif decide (w1 < 1) then False
    else
      bif decide (w1 > 100) then False
      else
        bif decide (w2 < 1) then False
        else
          bif decide (w2 > 100) then False
          else
            bif decide (w3 < 1) then False
            else
              bif decide (w3 > 100) then False
              else
                bif decide ((m : Int) > 2000) then False
                else
                  C
                      [Value.func (Fn.yield 0)
                          {
                            toList :=
                              [Value.agg { toList := [Value.string { data := #[105, 97] }, Value.int IntKind.i64 w1] },
                                Value.agg { toList := [Value.string { data := #[105, 98] }, Value.int IntKind.i64 w2] },
                                Value.agg { toList := [Value.string { data := #[105, 100] }, Value.int IntKind.i64 w3] }] }
                          { toList := [] },
                        Value.slice (some { block := 0, off := 0 }) 3 3,
                        Value.int IntKind.i64 (IntKind.i64.wrap (IntKind.i64.wrap (IntKind.i64.wrap (0 + w1) + w2) + w3)),
                        Value.slice none 0 0, Value.int IntKind.i64 (m : Int), Value.int IntKind.i64 0]
                      { next := 1, low := 1,
                        blocks :=
                          [(0,
                              Obj.cells
                                { toList := [Value.int IntKind.i64 0, Value.int IntKind.i64 0, Value.int IntKind.i64 0] } 3
                                (0, 0))] } ∧
                    Q (Value.tuple { toList := [Value.slice (some { block := 0, off := 0 }) m m, Value.int IntKind.i64 0] })
                      { next := 1, low := 1, blocks := [(0, Obj.cells { toList := ts } 9 (0, 0))] } := by kernel_rfl
theorem ro1100 (w1 w2 : Int) (m : Nat) (ts : List Value) (C : List Value → AH → Prop) (Q : Value → AH → Prop) : (tfn Tryz.prog SR [(19065, false), (970665, false), (703220, false), (571124, false), (771622, false)] (hook1 12 (hookLS 0 74 [0, 7, 8, 9, 28, 29] [1] [9] (fun vals h K => C vals h ∧ K (.exit 0) [.slice (some ⟨0, 0, none⟩) m m] ⟨1, 1, [(0, .cells ⟨ts⟩ 9)]⟩))) 200 [] Tryz.f24 [fz ⟨[.agg ⟨[.string ⟨#[105, 97]⟩, .int .i64 w1]⟩, .agg ⟨[.string ⟨#[105, 98]⟩, .int .i64 w2]⟩]⟩, .int .i64 m] h0 Q) =
    bif decide (w1 < 1) then False
    else
      bif decide (w1 > 100) then False
      else
        bif decide (w2 < 1) then False
        else
          bif decide (w2 > 100) then False
          else
            bif decide ((m : Int) > 2000) then False
            else
              C
                  [Value.func (Fn.yield 0)
                      {
                        toList :=
                          [Value.agg { toList := [Value.string { data := #[105, 97] }, Value.int IntKind.i64 w1] },
                            Value.agg { toList := [Value.string { data := #[105, 98] }, Value.int IntKind.i64 w2] }] }
                      { toList := [] },
                    Value.slice (some { block := 0, off := 0 }) 2 2,
                    Value.int IntKind.i64 (IntKind.i64.wrap (IntKind.i64.wrap (0 + w1) + w2)), Value.slice none 0 0,
                    Value.int IntKind.i64 (m : Int), Value.int IntKind.i64 0]
                  { next := 1, low := 1,
                    blocks := [(0, Obj.cells { toList := [Value.int IntKind.i64 0, Value.int IntKind.i64 0] } 3 (0, 0))] } ∧
                Q (Value.tuple { toList := [Value.slice (some { block := 0, off := 0 }) m m, Value.int IntKind.i64 0] })
                  { next := 1, low := 1, blocks := [(0, Obj.cells { toList := ts } 9 (0, 0))] } := by kernel_rfl
theorem ro1011 (w1 w2 w3 : Int) (m : Nat) (ts : List Value) (C : List Value → AH → Prop) (Q : Value → AH → Prop) : (tfn Tryz.prog SR [(19065, false), (970665, false), (703220, false), (571124, false), (271931, false), (79069, false), (115106, false)] (hook1 12 (hookLS 0 74 [0, 7, 8, 9, 28, 29] [1] [9] (fun vals h K => C vals h ∧ K (.exit 0) [.slice (some ⟨0, 0, none⟩) m m] ⟨1, 1, [(0, .cells ⟨ts⟩ 9)]⟩))) 200 [] Tryz.f24 [fz ⟨[.agg ⟨[.string ⟨#[105, 97]⟩, .int .i64 w1]⟩, .agg ⟨[.string ⟨#[105, 99]⟩, .int .i64 w2]⟩, .agg ⟨[.string ⟨#[105, 100]⟩, .int .i64 w3]⟩]⟩, .int .i64 m] h0 Q) =
    bif decide (w1 < 1) then False
    else
      bif decide (w1 > 100) then False
      else
        bif decide (w2 < 1) then False
        else
          bif decide (w2 > 100) then False
          else
            bif decide (w3 < 1) then False
            else
              bif decide (w3 > 100) then False
              else
                bif decide ((m : Int) > 2000) then False
                else
                  C
                      [Value.func (Fn.yield 0)
                          {
                            toList :=
                              [Value.agg { toList := [Value.string { data := #[105, 97] }, Value.int IntKind.i64 w1] },
                                Value.agg { toList := [Value.string { data := #[105, 99] }, Value.int IntKind.i64 w2] },
                                Value.agg { toList := [Value.string { data := #[105, 100] }, Value.int IntKind.i64 w3] }] }
                          { toList := [] },
                        Value.slice (some { block := 0, off := 0 }) 3 3,
                        Value.int IntKind.i64 (IntKind.i64.wrap (IntKind.i64.wrap (IntKind.i64.wrap (0 + w1) + w2) + w3)),
                        Value.slice none 0 0, Value.int IntKind.i64 (m : Int), Value.int IntKind.i64 0]
                      { next := 1, low := 1,
                        blocks :=
                          [(0,
                              Obj.cells
                                { toList := [Value.int IntKind.i64 0, Value.int IntKind.i64 0, Value.int IntKind.i64 0] } 3
                                (0, 0))] } ∧
                    Q (Value.tuple { toList := [Value.slice (some { block := 0, off := 0 }) m m, Value.int IntKind.i64 0] })
                      { next := 1, low := 1, blocks := [(0, Obj.cells { toList := ts } 9 (0, 0))] } := by kernel_rfl
theorem ro1010 (w1 w2 : Int) (m : Nat) (ts : List Value) (C : List Value → AH → Prop) (Q : Value → AH → Prop) : (tfn Tryz.prog SR [(19065, false), (970665, false), (703220, false), (571124, false), (771622, false)] (hook1 12 (hookLS 0 74 [0, 7, 8, 9, 28, 29] [1] [9] (fun vals h K => C vals h ∧ K (.exit 0) [.slice (some ⟨0, 0, none⟩) m m] ⟨1, 1, [(0, .cells ⟨ts⟩ 9)]⟩))) 200 [] Tryz.f24 [fz ⟨[.agg ⟨[.string ⟨#[105, 97]⟩, .int .i64 w1]⟩, .agg ⟨[.string ⟨#[105, 99]⟩, .int .i64 w2]⟩]⟩, .int .i64 m] h0 Q) =
    bif decide (w1 < 1) then False
    else
      bif decide (w1 > 100) then False
      else
        bif decide (w2 < 1) then False
        else
          bif decide (w2 > 100) then False
          else
            bif decide ((m : Int) > 2000) then False
            else
              C
                  [Value.func (Fn.yield 0)
                      {
                        toList :=
                          [Value.agg { toList := [Value.string { data := #[105, 97] }, Value.int IntKind.i64 w1] },
                            Value.agg { toList := [Value.string { data := #[105, 99] }, Value.int IntKind.i64 w2] }] }
                      { toList := [] },
                    Value.slice (some { block := 0, off := 0 }) 2 2,
                    Value.int IntKind.i64 (IntKind.i64.wrap (IntKind.i64.wrap (0 + w1) + w2)), Value.slice none 0 0,
                    Value.int IntKind.i64 (m : Int), Value.int IntKind.i64 0]
                  { next := 1, low := 1,
                    blocks := [(0, Obj.cells { toList := [Value.int IntKind.i64 0, Value.int IntKind.i64 0] } 3 (0, 0))] } ∧
                Q (Value.tuple { toList := [Value.slice (some { block := 0, off := 0 }) m m, Value.int IntKind.i64 0] })
                  { next := 1, low := 1, blocks := [(0, Obj.cells { toList := ts } 9 (0, 0))] } := by kernel_rfl
theorem ro1001 (w1 w2 : Int) (m : Nat) (ts : List Value) (C : List Value → AH → Prop) (Q : Value → AH → Prop) : (tfn Tryz.prog SR [(19065, false), (970665, false), (703220, false), (571124, false), (771622, false)] (hook1 12 (hookLS 0 74 [0, 7, 8, 9, 28, 29] [1] [9] (fun vals h K => C vals h ∧ K (.exit 0) [.slice (some ⟨0, 0, none⟩) m m] ⟨1, 1, [(0, .cells ⟨ts⟩ 9)]⟩))) 200 [] Tryz.f24 [fz ⟨[.agg ⟨[.string ⟨#[105, 97]⟩, .int .i64 w1]⟩, .agg ⟨[.string ⟨#[105, 100]⟩, .int .i64 w2]⟩]⟩, .int .i64 m] h0 Q) =
    bif decide (w1 < 1) then False
    else
      bif decide (w1 > 100) then False
      else
        bif decide (w2 < 1) then False
        else
          bif decide (w2 > 100) then False
          else
            bif decide ((m : Int) > 2000) then False
            else
              C
                  [Value.func (Fn.yield 0)
                      {
                        toList :=
                          [Value.agg { toList := [Value.string { data := #[105, 97] }, Value.int IntKind.i64 w1] },
                            Value.agg { toList := [Value.string { data := #[105, 100] }, Value.int IntKind.i64 w2] }] }
                      { toList := [] },
                    Value.slice (some { block := 0, off := 0 }) 2 2,
                    Value.int IntKind.i64 (IntKind.i64.wrap (IntKind.i64.wrap (0 + w1) + w2)), Value.slice none 0 0,
                    Value.int IntKind.i64 (m : Int), Value.int IntKind.i64 0]
                  { next := 1, low := 1,
                    blocks := [(0, Obj.cells { toList := [Value.int IntKind.i64 0, Value.int IntKind.i64 0] } 3 (0, 0))] } ∧
                Q (Value.tuple { toList := [Value.slice (some { block := 0, off := 0 }) m m, Value.int IntKind.i64 0] })
                  { next := 1, low := 1, blocks := [(0, Obj.cells { toList := ts } 9 (0, 0))] } := by kernel_rfl
theorem ro1000 (w1 : Int) (m : Nat) (ts : List Value) (C : List Value → AH → Prop) (Q : Value → AH → Prop) : (tfn Tryz.prog SR [(19065, false), (970665, false), (202908, false)] (hook1 12 (hookLS 0 74 [0, 7, 8, 9, 28, 29] [1] [9] (fun vals h K => C vals h ∧ K (.exit 0) [.slice (some ⟨0, 0, none⟩) m m] ⟨1, 1, [(0, .cells ⟨ts⟩ 9)]⟩))) 200 [] Tryz.f24 [fz ⟨[.agg ⟨[.string ⟨#[105, 97]⟩, .int .i64 w1]⟩]⟩, .int .i64 m] h0 Q) =
    bif decide (w1 < 1) then False
    else
      bif decide (w1 > 100) then False
      else
        bif decide ((m : Int) > 2000) then False
        else
          C
              [Value.func (Fn.yield 0)
                  { toList := [Value.agg { toList := [Value.string { data := #[105, 97] }, Value.int IntKind.i64 w1] }] }
                  { toList := [] },
                Value.slice (some { block := 0, off := 0 }) 1 1, Value.int IntKind.i64 (IntKind.i64.wrap (0 + w1)),
                Value.slice none 0 0, Value.int IntKind.i64 (m : Int), Value.int IntKind.i64 0]
              { next := 1, low := 1, blocks := [(0, Obj.cells { toList := [Value.int IntKind.i64 0] } 3 (0, 0))] } ∧
            Q (Value.tuple { toList := [Value.slice (some { block := 0, off := 0 }) m m, Value.int IntKind.i64 0] })
              { next := 1, low := 1, blocks := [(0, Obj.cells { toList := ts } 9 (0, 0))] } := by kernel_rfl
theorem ro0111 (w1 w2 w3 : Int) (m : Nat) (ts : List Value) (C : List Value → AH → Prop) (Q : Value → AH → Prop) : (tfn Tryz.prog SR [(19065, false), (970665, false), (703220, false), (571124, false), (271931, false), (79069, false), (115106, false)] (hook1 12 (hookLS 0 74 [0, 7, 8, 9, 28, 29] [1] [9] (fun vals h K => C vals h ∧ K (.exit 0) [.slice (some ⟨0, 0, none⟩) m m] ⟨1, 1, [(0, .cells ⟨ts⟩ 9)]⟩))) 200 [] Tryz.f24 [fz ⟨[.agg ⟨[.string ⟨#[105, 98]⟩, .int .i64 w1]⟩, .agg ⟨[.string ⟨#[105, 99]⟩, .int .i64 w2]⟩, .agg ⟨[.string ⟨#[105, 100]⟩, .int .i64 w3]⟩]⟩, .int .i64 m] h0 Q) =
    bif decide (w1 < 1) then False
    else
      bif decide (w1 > 100) then False
      else
        bif decide (w2 < 1) then False
        else
          bif decide (w2 > 100) then False
          else
            bif decide (w3 < 1) then False
            else
              bif decide (w3 > 100) then False
              else
                bif decide ((m : Int) > 2000) then False
                else
                  C
                      [Value.func (Fn.yield 0)
                          {
                            toList :=
                              [Value.agg { toList := [Value.string { data := #[105, 98] }, Value.int IntKind.i64 w1] },
                                Value.agg { toList := [Value.string { data := #[105, 99] }, Value.int IntKind.i64 w2] },
                                Value.agg { toList := [Value.string { data := #[105, 100] }, Value.int IntKind.i64 w3] }] }
                          { toList := [] },
                        Value.slice (some { block := 0, off := 0 }) 3 3,
                        Value.int IntKind.i64 (IntKind.i64.wrap (IntKind.i64.wrap (IntKind.i64.wrap (0 + w1) + w2) + w3)),
                        Value.slice none 0 0, Value.int IntKind.i64 (m : Int), Value.int IntKind.i64 0]
                      { next := 1, low := 1,
                        blocks :=
                          [(0,
                              Obj.cells
                                { toList := [Value.int IntKind.i64 0, Value.int IntKind.i64 0, Value.int IntKind.i64 0] } 3
                                (0, 0))] } ∧
                    Q (Value.tuple { toList := [Value.slice (some { block := 0, off := 0 }) m m, Value.int IntKind.i64 0] })
                      { next := 1, low := 1, blocks := [(0, Obj.cells { toList := ts } 9 (0, 0))] } := by kernel_rfl
theorem ro0110 (w1 w2 : Int) (m : Nat) (ts : List Value) (C : List Value → AH → Prop) (Q : Value → AH → Prop) : (tfn Tryz.prog SR [(19065, false), (970665, false), (703220, false), (571124, false), (771622, false)] (hook1 12 (hookLS 0 74 [0, 7, 8, 9, 28, 29] [1] [9] (fun vals h K => C vals h ∧ K (.exit 0) [.slice (some ⟨0, 0, none⟩) m m] ⟨1, 1, [(0, .cells ⟨ts⟩ 9)]⟩))) 200 [] Tryz.f24 [fz ⟨[.agg ⟨[.string ⟨#[105, 98]⟩, .int .i64 w1]⟩, .agg ⟨[.string ⟨#[105, 99]⟩, .int .i64 w2]⟩]⟩, .int .i64 m] h0 Q) =
    bif decide (w1 < 1) then False
    else
      bif decide (w1 > 100) then False
      else
        bif decide (w2 < 1) then False
        else
          bif decide (w2 > 100) then False
          else
            bif decide ((m : Int) > 2000) then False
            else
              C
                  [Value.func (Fn.yield 0)
                      {
                        toList :=
                          [Value.agg { toList := [Value.string { data := #[105, 98] }, Value.int IntKind.i64 w1] },
                            Value.agg { toList := [Value.string { data := #[105, 99] }, Value.int IntKind.i64 w2] }] }
                      { toList := [] },
                    Value.slice (some { block := 0, off := 0 }) 2 2,
                    Value.int IntKind.i64 (IntKind.i64.wrap (IntKind.i64.wrap (0 + w1) + w2)), Value.slice none 0 0,
                    Value.int IntKind.i64 (m : Int), Value.int IntKind.i64 0]
                  { next := 1, low := 1,
                    blocks := [(0, Obj.cells { toList := [Value.int IntKind.i64 0, Value.int IntKind.i64 0] } 3 (0, 0))] } ∧
                Q (Value.tuple { toList := [Value.slice (some { block := 0, off := 0 }) m m, Value.int IntKind.i64 0] })
                  { next := 1, low := 1, blocks := [(0, Obj.cells { toList := ts } 9 (0, 0))] } := by kernel_rfl
theorem ro0101 (w1 w2 : Int) (m : Nat) (ts : List Value) (C : List Value → AH → Prop) (Q : Value → AH → Prop) : (tfn Tryz.prog SR [(19065, false), (970665, false), (703220, false), (571124, false), (771622, false)] (hook1 12 (hookLS 0 74 [0, 7, 8, 9, 28, 29] [1] [9] (fun vals h K => C vals h ∧ K (.exit 0) [.slice (some ⟨0, 0, none⟩) m m] ⟨1, 1, [(0, .cells ⟨ts⟩ 9)]⟩))) 200 [] Tryz.f24 [fz ⟨[.agg ⟨[.string ⟨#[105, 98]⟩, .int .i64 w1]⟩, .agg ⟨[.string ⟨#[105, 100]⟩, .int .i64 w2]⟩]⟩, .int .i64 m] h0 Q) =
    bif decide (w1 < 1) then False
    else
      bif decide (w1 > 100) then False
      else
        bif decide (w2 < 1) then False
        else
          bif decide (w2 > 100) then False
          else
            bif decide ((m : Int) > 2000) then False
            else
              C
                  [Value.func (Fn.yield 0)
                      {
                        toList :=
                          [Value.agg { toList := [Value.string { data := #[105, 98] }, Value.int IntKind.i64 w1] },
                            Value.agg { toList := [Value.string { data := #[105, 100] }, Value.int IntKind.i64 w2] }] }
                      { toList := [] },
                    Value.slice (some { block := 0, off := 0 }) 2 2,
                    Value.int IntKind.i64 (IntKind.i64.wrap (IntKind.i64.wrap (0 + w1) + w2)), Value.slice none 0 0,
                    Value.int IntKind.i64 (m : Int), Value.int IntKind.i64 0]
                  { next := 1, low := 1,
                    blocks := [(0, Obj.cells { toList := [Value.int IntKind.i64 0, Value.int IntKind.i64 0] } 3 (0, 0))] } ∧
                Q (Value.tuple { toList := [Value.slice (some { block := 0, off := 0 }) m m, Value.int IntKind.i64 0] })
                  { next := 1, low := 1, blocks := [(0, Obj.cells { toList := ts } 9 (0, 0))] } := by kernel_rfl
theorem ro0100 (w1 : Int) (m : Nat) (ts : List Value) (C : List Value → AH → Prop) (Q : Value → AH → Prop) : (tfn Tryz.prog SR [(19065, false), (970665, false), (202908, false)] (hook1 12 (hookLS 0 74 [0, 7, 8, 9, 28, 29] [1] [9] (fun vals h K => C vals h ∧ K (.exit 0) [.slice (some ⟨0, 0, none⟩) m m] ⟨1, 1, [(0, .cells ⟨ts⟩ 9)]⟩))) 200 [] Tryz.f24 [fz ⟨[.agg ⟨[.string ⟨#[105, 98]⟩, .int .i64 w1]⟩]⟩, .int .i64 m] h0 Q) =
    bif decide (w1 < 1) then False
    else
      bif decide (w1 > 100) then False
      else
        bif decide ((m : Int) > 2000) then False
        else
          C
              [Value.func (Fn.yield 0)
                  { toList := [Value.agg { toList := [Value.string { data := #[105, 98] }, Value.int IntKind.i64 w1] }] }
                  { toList := [] },
                Value.slice (some { block := 0, off := 0 }) 1 1, Value.int IntKind.i64 (IntKind.i64.wrap (0 + w1)),
                Value.slice none 0 0, Value.int IntKind.i64 (m : Int), Value.int IntKind.i64 0]
              { next := 1, low := 1, blocks := [(0, Obj.cells { toList := [Value.int IntKind.i64 0] } 3 (0, 0))] } ∧
            Q (Value.tuple { toList := [Value.slice (some { block := 0, off := 0 }) m m, Value.int IntKind.i64 0] })
              { next := 1, low := 1, blocks := [(0, Obj.cells { toList := ts } 9 (0, 0))] } := by kernel_rfl
theorem ro0011 (w1 w2 : Int) (m : Nat) (ts : List Value) (C : List Value → AH → Prop) (Q : Value → AH → Prop) : (tfn Tryz.prog SR [(19065, false), (970665, false), (703220, false), (571124, false), (771622, false)] (hook1 12 (hookLS 0 74 [0, 7, 8, 9, 28, 29] [1] [9] (fun vals h K => C vals h ∧ K (.exit 0) [.slice (some ⟨0, 0, none⟩) m m] ⟨1, 1, [(0, .cells ⟨ts⟩ 9)]⟩))) 200 [] Tryz.f24 [fz ⟨[.agg ⟨[.string ⟨#[105, 99]⟩, .int .i64 w1]⟩, .agg ⟨[.string ⟨#[105, 100]⟩, .int .i64 w2]⟩]⟩, .int .i64 m] h0 Q) =
    bif decide (w1 < 1) then False
    else
      bif decide (w1 > 100) then False
      else
        bif decide (w2 < 1) then False
        else
          bif decide (w2 > 100) then False
          else
            bif decide ((m : Int) > 2000) then False
            else
              C
                  [Value.func (Fn.yield 0)
                      {
                        toList :=
                          [Value.agg { toList := [Value.string { data := #[105, 99] }, Value.int IntKind.i64 w1] },
                            Value.agg { toList := [Value.string { data := #[105, 100] }, Value.int IntKind.i64 w2] }] }
                      { toList := [] },
                    Value.slice (some { block := 0, off := 0 }) 2 2,
                    Value.int IntKind.i64 (IntKind.i64.wrap (IntKind.i64.wrap (0 + w1) + w2)), Value.slice none 0 0,
                    Value.int IntKind.i64 (m : Int), Value.int IntKind.i64 0]
                  { next := 1, low := 1,
                    blocks := [(0, Obj.cells { toList := [Value.int IntKind.i64 0, Value.int IntKind.i64 0] } 3 (0, 0))] } ∧
                Q (Value.tuple { toList := [Value.slice (some { block := 0, off := 0 }) m m, Value.int IntKind.i64 0] })
                  { next := 1, low := 1, blocks := [(0, Obj.cells { toList := ts } 9 (0, 0))] } := by kernel_rfl
theorem ro0010 (w1 : Int) (m : Nat) (ts : List Value) (C : List Value → AH → Prop) (Q : Value → AH → Prop) : (tfn Tryz.prog SR [(19065, false), (970665, false), (202908, false)] (hook1 12 (hookLS 0 74 [0, 7, 8, 9, 28, 29] [1] [9] (fun vals h K => C vals h ∧ K (.exit 0) [.slice (some ⟨0, 0, none⟩) m m] ⟨1, 1, [(0, .cells ⟨ts⟩ 9)]⟩))) 200 [] Tryz.f24 [fz ⟨[.agg ⟨[.string ⟨#[105, 99]⟩, .int .i64 w1]⟩]⟩, .int .i64 m] h0 Q) =
    bif decide (w1 < 1) then False
    else
      bif decide (w1 > 100) then False
      else
        bif decide ((m : Int) > 2000) then False
        else
          C
              [Value.func (Fn.yield 0)
                  { toList := [Value.agg { toList := [Value.string { data := #[105, 99] }, Value.int IntKind.i64 w1] }] }
                  { toList := [] },
                Value.slice (some { block := 0, off := 0 }) 1 1, Value.int IntKind.i64 (IntKind.i64.wrap (0 + w1)),
                Value.slice none 0 0, Value.int IntKind.i64 (m : Int), Value.int IntKind.i64 0]
              { next := 1, low := 1, blocks := [(0, Obj.cells { toList := [Value.int IntKind.i64 0] } 3 (0, 0))] } ∧
            Q (Value.tuple { toList := [Value.slice (some { block := 0, off := 0 }) m m, Value.int IntKind.i64 0] })
              { next := 1, low := 1, blocks := [(0, Obj.cells { toList := ts } 9 (0, 0))] } := by kernel_rfl
theorem ro0001 (w1 : Int) (m : Nat) (ts : List Value) (C : List Value → AH → Prop) (Q : Value → AH → Prop) : (tfn Tryz.prog SR [(19065, false), (970665, false), (202908, false)] (hook1 12 (hookLS 0 74 [0, 7, 8, 9, 28, 29] [1] [9] (fun vals h K => C vals h ∧ K (.exit 0) [.slice (some ⟨0, 0, none⟩) m m] ⟨1, 1, [(0, .cells ⟨ts⟩ 9)]⟩))) 200 [] Tryz.f24 [fz ⟨[.agg ⟨[.string ⟨#[105, 100]⟩, .int .i64 w1]⟩]⟩, .int .i64 m] h0 Q) =
    bif decide (w1 < 1) then False
    else
      bif decide (w1 > 100) then False
      else
        bif decide ((m : Int) > 2000) then False
        else
          C
              [Value.func (Fn.yield 0)
                  { toList := [Value.agg { toList := [Value.string { data := #[105, 100] }, Value.int IntKind.i64 w1] }] }
                  { toList := [] },
                Value.slice (some { block := 0, off := 0 }) 1 1, Value.int IntKind.i64 (IntKind.i64.wrap (0 + w1)),
                Value.slice none 0 0, Value.int IntKind.i64 (m : Int), Value.int IntKind.i64 0]
              { next := 1, low := 1, blocks := [(0, Obj.cells { toList := [Value.int IntKind.i64 0] } 3 (0, 0))] } ∧
            Q (Value.tuple { toList := [Value.slice (some { block := 0, off := 0 }) m m, Value.int IntKind.i64 0] })
              { next := 1, low := 1, blocks := [(0, Obj.cells { toList := ts } 9 (0, 0))] } := by kernel_rfl
theorem round1111 (w1 w2 w3 w4 : Int) (g1 : 1 ≤ w1 ∧ w1 ≤ 100) (g2 : 1 ≤ w2 ∧ w2 ≤ 100) (g3 : 1 ≤ w3 ∧ w3 ≤ 100) (g4 : 1 ≤ w4 ∧ w4 ≤ 100) (m : Nat) (h1 : 1 ≤ m) (h2 : m ≤ 2000) :
    FnOK 0 Tryz.prog 24 ⟨[fz ⟨[.agg ⟨[.string ⟨#[105, 97]⟩, .int .i64 w1]⟩, .agg ⟨[.string ⟨#[105, 98]⟩, .int .i64 w2]⟩, .agg ⟨[.string ⟨#[105, 99]⟩, .int .i64 w3]⟩, .agg ⟨[.string ⟨#[105, 100]⟩, .int .i64 w4]⟩]⟩, .int .i64 m]⟩ h0 (fun v _ => v = .tuple ⟨[fz ⟨((roundK [⟨#[105, 97]⟩, ⟨#[105, 98]⟩, ⟨#[105, 99]⟩, ⟨#[105, 100]⟩] [w1, w2, w3, w4] m).map Value.string)⟩, .int .i64 0]⟩) := by
  have hC : LSpec 0 Tryz.prog 74 (oneLoop (codeOf Tryz.f24) 12) (hookLS 0 74 [0, 7, 8, 9, 28, 29] [1] [9] (fun vals h K => (vals = [fz ⟨[.agg ⟨[.string ⟨#[105, 97]⟩, .int .i64 w1]⟩, .agg ⟨[.string ⟨#[105, 98]⟩, .int .i64 w2]⟩, .agg ⟨[.string ⟨#[105, 99]⟩, .int .i64 w3]⟩, .agg ⟨[.string ⟨#[105, 100]⟩, .int .i64 w4]⟩]⟩, .slice (some ⟨0, 0, none⟩) 4 4, .int .i64 (sumW [w1, w2, w3, w4]), .slice none 0 0, .int .i64 m, .int .i64 0] ∧ h = ⟨1, 1, [(0, .cells ⟨[.int .i64 0, .int .i64 0, .int .i64 0, .int .i64 0]⟩ 3)]⟩) ∧ K (.exit 0) [.slice (some ⟨0, 0, none⟩) m m] ⟨1, 1, [(0, .cells ⟨((roundK [⟨#[105, 97]⟩, ⟨#[105, 98]⟩, ⟨#[105, 99]⟩, ⟨#[105, 100]⟩] [w1, w2, w3, w4] m).map Value.string)⟩ 9)]⟩)) := by
    refine hook_ok (G := [(2, false)]) (L := noHooks) (f := 100) (sameX := [0]) SR_ok mixed (by decide) (loops_none _ _ _ _) ?_
    rintro vals h K ⟨⟨rfl, rfl⟩, hK⟩
    refine ⟨m + 1, loop4 ⟨#[105, 97]⟩ ⟨#[105, 98]⟩ ⟨#[105, 99]⟩ ⟨#[105, 100]⟩ w1 w2 w3 w4 (sumW [w1, w2, w3, w4]) m h1 h2 ?_⟩
    have e : List.map (keyV [⟨#[105, 97]⟩, ⟨#[105, 98]⟩, ⟨#[105, 99]⟩, ⟨#[105, 100]⟩]) (turns [w1, w2, w3, w4] (sumW [w1, w2, w3, w4]) m [0, 0, 0, 0]) = ((roundK [⟨#[105, 97]⟩, ⟨#[105, 98]⟩, ⟨#[105, 99]⟩, ⟨#[105, 100]⟩] [w1, w2, w3, w4] m).map Value.string) := by
      simp only [roundK, List.map_map]; rfl
    rw [e]
    exact hK
  refine FnOK.weakT (FnOK.ttree SR_ok mixed Tryz.func24 some24 (loops_one one24 hC) (ro1111 w1 w2 w3 w4 m ((roundK [⟨#[105, 97]⟩, ⟨#[105, 98]⟩, ⟨#[105, 99]⟩, ⟨#[105, 100]⟩] [w1, w2, w3, w4] m).map Value.string) (fun vals h => vals = [fz ⟨[.agg ⟨[.string ⟨#[105, 97]⟩, .int .i64 w1]⟩, .agg ⟨[.string ⟨#[105, 98]⟩, .int .i64 w2]⟩, .agg ⟨[.string ⟨#[105, 99]⟩, .int .i64 w3]⟩, .agg ⟨[.string ⟨#[105, 100]⟩, .int .i64 w4]⟩]⟩, .slice (some ⟨0, 0, none⟩) 4 4, .int .i64 (sumW [w1, w2, w3, w4]), .slice none 0 0, .int .i64 m, .int .i64 0] ∧ h = ⟨1, 1, [(0, .cells ⟨[.int .i64 0, .int .i64 0, .int .i64 0, .int .i64 0]⟩ 3)]⟩) _) ?_)
  exact cut_mk (by simp; omega) (cut_mk (by simp; omega) (cut_mk (by simp; omega) (cut_mk (by simp; omega) (cut_mk (by simp; omega) (cut_mk (by simp; omega) (cut_mk (by simp; omega) (cut_mk (by simp; omega) (cut_mk (by simp; omega) (⟨⟨rfl, rfl⟩, _, _, _, rfl, freezeS _ _ (roundK_len _ _ _) rfl, rfl⟩)))))))))
theorem spRound1111 : SpOK (spRound [⟨#[105, 97]⟩, ⟨#[105, 98]⟩, ⟨#[105, 99]⟩, ⟨#[105, 100]⟩]) := by
  refine spRound_ok _ ?_
  intro ws hl hw m h1 h2
  match ws, hl, hw with
  | [w1, w2, w3, w4], _, hw => exact round1111 w1 w2 w3 w4 (hw w1 (by simp)) (hw w2 (by simp)) (hw w3 (by simp)) (hw w4 (by simp)) m h1 h2
theorem round1110 (w1 w2 w3 : Int) (g1 : 1 ≤ w1 ∧ w1 ≤ 100) (g2 : 1 ≤ w2 ∧ w2 ≤ 100) (g3 : 1 ≤ w3 ∧ w3 ≤ 100) (m : Nat) (h1 : 1 ≤ m) (h2 : m ≤ 2000) :
    FnOK 0 Tryz.prog 24 ⟨[fz ⟨[.agg ⟨[.string ⟨#[105, 97]⟩, .int .i64 w1]⟩, .agg ⟨[.string ⟨#[105, 98]⟩, .int .i64 w2]⟩, .agg ⟨[.string ⟨#[105, 99]⟩, .int .i64 w3]⟩]⟩, .int .i64 m]⟩ h0 (fun v _ => v = .tuple ⟨[fz ⟨((roundK [⟨#[105, 97]⟩, ⟨#[105, 98]⟩, ⟨#[105, 99]⟩] [w1, w2, w3] m).map Value.string)⟩, .int .i64 0]⟩) := by
  have hC : LSpec 0 Tryz.prog 74 (oneLoop (codeOf Tryz.f24) 12) (hookLS 0 74 [0, 7, 8, 9, 28, 29] [1] [9] (fun vals h K => (vals = [fz ⟨[.agg ⟨[.string ⟨#[105, 97]⟩, .int .i64 w1]⟩, .agg ⟨[.string ⟨#[105, 98]⟩, .int .i64 w2]⟩, .agg ⟨[.string ⟨#[105, 99]⟩, .int .i64 w3]⟩]⟩, .slice (some ⟨0, 0, none⟩) 3 3, .int .i64 (sumW [w1, w2, w3]), .slice none 0 0, .int .i64 m, .int .i64 0] ∧ h = ⟨1, 1, [(0, .cells ⟨[.int .i64 0, .int .i64 0, .int .i64 0]⟩ 3)]⟩) ∧ K (.exit 0) [.slice (some ⟨0, 0, none⟩) m m] ⟨1, 1, [(0, .cells ⟨((roundK [⟨#[105, 97]⟩, ⟨#[105, 98]⟩, ⟨#[105, 99]⟩] [w1, w2, w3] m).map Value.string)⟩ 9)]⟩)) := by
    refine hook_ok (G := [(2, false)]) (L := noHooks) (f := 100) (sameX := [0]) SR_ok mixed (by decide) (loops_none _ _ _ _) ?_
    rintro vals h K ⟨⟨rfl, rfl⟩, hK⟩
    refine ⟨m + 1, loop3 ⟨#[105, 97]⟩ ⟨#[105, 98]⟩ ⟨#[105, 99]⟩ w1 w2 w3 (sumW [w1, w2, w3]) m h1 h2 ?_⟩
    have e : List.map (keyV [⟨#[105, 97]⟩, ⟨#[105, 98]⟩, ⟨#[105, 99]⟩]) (turns [w1, w2, w3] (sumW [w1, w2, w3]) m [0, 0, 0]) = ((roundK [⟨#[105, 97]⟩, ⟨#[105, 98]⟩, ⟨#[105, 99]⟩] [w1, w2, w3] m).map Value.string) := by
      simp only [roundK, List.map_map]; rfl
    rw [e]
    exact hK
  refine FnOK.weakT (FnOK.ttree SR_ok mixed Tryz.func24 some24 (loops_one one24 hC) (ro1110 w1 w2 w3 m ((roundK [⟨#[105, 97]⟩, ⟨#[105, 98]⟩, ⟨#[105, 99]⟩] [w1, w2, w3] m).map Value.string) (fun vals h => vals = [fz ⟨[.agg ⟨[.string ⟨#[105, 97]⟩, .int .i64 w1]⟩, .agg ⟨[.string ⟨#[105, 98]⟩, .int .i64 w2]⟩, .agg ⟨[.string ⟨#[105, 99]⟩, .int .i64 w3]⟩]⟩, .slice (some ⟨0, 0, none⟩) 3 3, .int .i64 (sumW [w1, w2, w3]), .slice none 0 0, .int .i64 m, .int .i64 0] ∧ h = ⟨1, 1, [(0, .cells ⟨[.int .i64 0, .int .i64 0, .int .i64 0]⟩ 3)]⟩) _) ?_)
  exact cut_mk (by simp; omega) (cut_mk (by simp; omega) (cut_mk (by simp; omega) (cut_mk (by simp; omega) (cut_mk (by simp; omega) (cut_mk (by simp; omega) (cut_mk (by simp; omega) (⟨⟨rfl, rfl⟩, _, _, _, rfl, freezeS _ _ (roundK_len _ _ _) rfl, rfl⟩)))))))
theorem spRound1110 : SpOK (spRound [⟨#[105, 97]⟩, ⟨#[105, 98]⟩, ⟨#[105, 99]⟩]) := by
  refine spRound_ok _ ?_
  intro ws hl hw m h1 h2
  match ws, hl, hw with
  | [w1, w2, w3], _, hw => exact round1110 w1 w2 w3 (hw w1 (by simp)) (hw w2 (by simp)) (hw w3 (by simp)) m h1 h2
theorem round1101 (w1 w2 w3 : Int) (g1 : 1 ≤ w1 ∧ w1 ≤ 100) (g2 : 1 ≤ w2 ∧ w2 ≤ 100) (g3 : 1 ≤ w3 ∧ w3 ≤ 100) (m : Nat) (h1 : 1 ≤ m) (h2 : m ≤ 2000) :
    FnOK 0 Tryz.prog 24 ⟨[fz ⟨[.agg ⟨[.string ⟨#[105, 97]⟩, .int .i64 w1]⟩, .agg ⟨[.string ⟨#[105, 98]⟩, .int .i64 w2]⟩, .agg ⟨[.string ⟨#[105, 100]⟩, .int .i64 w3]⟩]⟩, .int .i64 m]⟩ h0 (fun v _ => v = .tuple ⟨[fz ⟨((roundK [⟨#[105, 97]⟩, ⟨#[105, 98]⟩, ⟨#[105, 100]⟩] [w1, w2, w3] m).map Value.string)⟩, .int .i64 0]⟩) := by
  have hC : LSpec 0 Tryz.prog 74 (oneLoop (codeOf Tryz.f24) 12) (hookLS 0 74 [0, 7, 8, 9, 28, 29] [1] [9] (fun vals h K => (vals = [fz ⟨[.agg ⟨[.string ⟨#[105, 97]⟩, .int .i64 w1]⟩, .agg ⟨[.string ⟨#[105, 98]⟩, .int .i64 w2]⟩, .agg ⟨[.string ⟨#[105, 100]⟩, .int .i64 w3]⟩]⟩, .slice (some ⟨0, 0, none⟩) 3 3, .int .i64 (sumW [w1, w2, w3]), .slice none 0 0, .int .i64 m, .int .i64 0] ∧ h = ⟨1, 1, [(0, .cells ⟨[.int .i64 0, .int .i64 0, .int .i64 0]⟩ 3)]⟩) ∧ K (.exit 0) [.slice (some ⟨0, 0, none⟩) m m] ⟨1, 1, [(0, .cells ⟨((roundK [⟨#[105, 97]⟩, ⟨#[105, 98]⟩, ⟨#[105, 100]⟩] [w1, w2, w3] m).map Value.string)⟩ 9)]⟩)) := by
    refine hook_ok (G := [(2, false)]) (L := noHooks) (f := 100) (sameX := [0]) SR_ok mixed (by decide) (loops_none _ _ _ _) ?_
    rintro vals h K ⟨⟨rfl, rfl⟩, hK⟩
    refine ⟨m + 1, loop3 ⟨#[105, 97]⟩ ⟨#[105, 98]⟩ ⟨#[105, 100]⟩ w1 w2 w3 (sumW [w1, w2, w3]) m h1 h2 ?_⟩
    have e : List.map (keyV [⟨#[105, 97]⟩, ⟨#[105, 98]⟩, ⟨#[105, 100]⟩]) (turns [w1, w2, w3] (sumW [w1, w2, w3]) m [0, 0, 0]) = ((roundK [⟨#[105, 97]⟩, ⟨#[105, 98]⟩, ⟨#[105, 100]⟩] [w1, w2, w3] m).map Value.string) := by
      simp only [roundK, List.map_map]; rfl
    rw [e]
    exact hK
  refine FnOK.weakT (FnOK.ttree SR_ok mixed Tryz.func24 some24 (loops_one one24 hC) (ro1101 w1 w2 w3 m ((roundK [⟨#[105, 97]⟩, ⟨#[105, 98]⟩, ⟨#[105, 100]⟩] [w1, w2, w3] m).map Value.string) (fun vals h => vals = [fz ⟨[.agg ⟨[.string ⟨#[105, 97]⟩, .int .i64 w1]⟩, .agg ⟨[.string ⟨#[105, 98]⟩, .int .i64 w2]⟩, .agg ⟨[.string ⟨#[105, 100]⟩, .int .i64 w3]⟩]⟩, .slice (some ⟨0, 0, none⟩) 3 3, .int .i64 (sumW [w1, w2, w3]), .slice none 0 0, .int .i64 m, .int .i64 0] ∧ h = ⟨1, 1, [(0, .cells ⟨[.int .i64 0, .int .i64 0, .int .i64 0]⟩ 3)]⟩) _) ?_)
  exact cut_mk (by simp; omega) (cut_mk (by simp; omega) (cut_mk (by simp; omega) (cut_mk (by simp; omega) (cut_mk (by simp; omega) (cut_mk (by simp; omega) (cut_mk (by simp; omega) (⟨⟨rfl, rfl⟩, _, _, _, rfl, freezeS _ _ (roundK_len _ _ _) rfl, rfl⟩)))))))
theorem spRound1101 : SpOK (spRound [⟨#[105, 97]⟩, ⟨#[105, 98]⟩, ⟨#[105, 100]⟩]) := by
  refine spRound_ok _ ?_
  intro ws hl hw m h1 h2
  match ws, hl, hw with
  | [w1, w2, w3], _, hw => exact round1101 w1 w2 w3 (hw w1 (by simp)) (hw w2 (by simp)) (hw w3 (by simp)) m h1 h2
theorem round1100 (w1 w2 : Int) (g1 : 1 ≤ w1 ∧ w1 ≤ 100) (g2 : 1 ≤ w2 ∧ w2 ≤ 100) (m : Nat) (h1 : 1 ≤ m) (h2 : m ≤ 2000) :
    FnOK 0 Tryz.prog 24 ⟨[fz ⟨[.agg ⟨[.string ⟨#[105, 97]⟩, .int .i64 w1]⟩, .agg ⟨[.string ⟨#[105, 98]⟩, .int .i64 w2]⟩]⟩, .int .i64 m]⟩ h0 (fun v _ => v = .tuple ⟨[fz ⟨((roundK [⟨#[105, 97]⟩, ⟨#[105, 98]⟩] [w1, w2] m).map Value.string)⟩, .int .i64 0]⟩) := by
  have hC : LSpec 0 Tryz.prog 74 (oneLoop (codeOf Tryz.f24) 12) (hookLS 0 74 [0, 7, 8, 9, 28, 29] [1] [9] (fun vals h K => (vals = [fz ⟨[.agg ⟨[.string ⟨#[105, 97]⟩, .int .i64 w1]⟩, .agg ⟨[.string ⟨#[105, 98]⟩, .int .i64 w2]⟩]⟩, .slice (some ⟨0, 0, none⟩) 2 2, .int .i64 (sumW [w1, w2]), .slice none 0 0, .int .i64 m, .int .i64 0] ∧ h = ⟨1, 1, [(0, .cells ⟨[.int .i64 0, .int .i64 0]⟩ 3)]⟩) ∧ K (.exit 0) [.slice (some ⟨0, 0, none⟩) m m] ⟨1, 1, [(0, .cells ⟨((roundK [⟨#[105, 97]⟩, ⟨#[105, 98]⟩] [w1, w2] m).map Value.string)⟩ 9)]⟩)) := by
    refine hook_ok (G := [(2, false)]) (L := noHooks) (f := 100) (sameX := [0]) SR_ok mixed (by decide) (loops_none _ _ _ _) ?_
    rintro vals h K ⟨⟨rfl, rfl⟩, hK⟩
    refine ⟨m + 1, loop2 ⟨#[105, 97]⟩ ⟨#[105, 98]⟩ w1 w2 (sumW [w1, w2]) m h1 h2 ?_⟩
    have e : List.map (keyV [⟨#[105, 97]⟩, ⟨#[105, 98]⟩]) (turns [w1, w2] (sumW [w1, w2]) m [0, 0]) = ((roundK [⟨#[105, 97]⟩, ⟨#[105, 98]⟩] [w1, w2] m).map Value.string) := by
      simp only [roundK, List.map_map]; rfl
    rw [e]
    exact hK
  refine FnOK.weakT (FnOK.ttree SR_ok mixed Tryz.func24 some24 (loops_one one24 hC) (ro1100 w1 w2 m ((roundK [⟨#[105, 97]⟩, ⟨#[105, 98]⟩] [w1, w2] m).map Value.string) (fun vals h => vals = [fz ⟨[.agg ⟨[.string ⟨#[105, 97]⟩, .int .i64 w1]⟩, .agg ⟨[.string ⟨#[105, 98]⟩, .int .i64 w2]⟩]⟩, .slice (some ⟨0, 0, none⟩) 2 2, .int .i64 (sumW [w1, w2]), .slice none 0 0, .int .i64 m, .int .i64 0] ∧ h = ⟨1, 1, [(0, .cells ⟨[.int .i64 0, .int .i64 0]⟩ 3)]⟩) _) ?_)
  exact cut_mk (by simp; omega) (cut_mk (by simp; omega) (cut_mk (by simp; omega) (cut_mk (by simp; omega) (cut_mk (by simp; omega) (⟨⟨rfl, rfl⟩, _, _, _, rfl, freezeS _ _ (roundK_len _ _ _) rfl, rfl⟩)))))
theorem spRound1100 : SpOK (spRound [⟨#[105, 97]⟩, ⟨#[105, 98]⟩]) := by
  refine spRound_ok _ ?_
  intro ws hl hw m h1 h2
  match ws, hl, hw with
  | [w1, w2], _, hw => exact round1100 w1 w2 (hw w1 (by simp)) (hw w2 (by simp)) m h1 h2
theorem round1011 (w1 w2 w3 : Int) (g1 : 1 ≤ w1 ∧ w1 ≤ 100) (g2 : 1 ≤ w2 ∧ w2 ≤ 100) (g3 : 1 ≤ w3 ∧ w3 ≤ 100) (m : Nat) (h1 : 1 ≤ m) (h2 : m ≤ 2000) :
    FnOK 0 Tryz.prog 24 ⟨[fz ⟨[.agg ⟨[.string ⟨#[105, 97]⟩, .int .i64 w1]⟩, .agg ⟨[.string ⟨#[105, 99]⟩, .int .i64 w2]⟩, .agg ⟨[.string ⟨#[105, 100]⟩, .int .i64 w3]⟩]⟩, .int .i64 m]⟩ h0 (fun v _ => v = .tuple ⟨[fz ⟨((roundK [⟨#[105, 97]⟩, ⟨#[105, 99]⟩, ⟨#[105, 100]⟩] [w1, w2, w3] m).map Value.string)⟩, .int .i64 0]⟩) := by
  have hC : LSpec 0 Tryz.prog 74 (oneLoop (codeOf Tryz.f24) 12) (hookLS 0 74 [0, 7, 8, 9, 28, 29] [1] [9] (fun vals h K => (vals = [fz ⟨[.agg ⟨[.string ⟨#[105, 97]⟩, .int .i64 w1]⟩, .agg ⟨[.string ⟨#[105, 99]⟩, .int .i64 w2]⟩, .agg ⟨[.string ⟨#[105, 100]⟩, .int .i64 w3]⟩]⟩, .slice (some ⟨0, 0, none⟩) 3 3, .int .i64 (sumW [w1, w2, w3]), .slice none 0 0, .int .i64 m, .int .i64 0] ∧ h = ⟨1, 1, [(0, .cells ⟨[.int .i64 0, .int .i64 0, .int .i64 0]⟩ 3)]⟩) ∧ K (.exit 0) [.slice (some ⟨0, 0, none⟩) m m] ⟨1, 1, [(0, .cells ⟨((roundK [⟨#[105, 97]⟩, ⟨#[105, 99]⟩, ⟨#[105, 100]⟩] [w1, w2, w3] m).map Value.string)⟩ 9)]⟩)) := by
    refine hook_ok (G := [(2, false)]) (L := noHooks) (f := 100) (sameX := [0]) SR_ok mixed (by decide) (loops_none _ _ _ _) ?_
    rintro vals h K ⟨⟨rfl, rfl⟩, hK⟩
    refine ⟨m + 1, loop3 ⟨#[105, 97]⟩ ⟨#[105, 99]⟩ ⟨#[105, 100]⟩ w1 w2 w3 (sumW [w1, w2, w3]) m h1 h2 ?_⟩
    have e : List.map (keyV [⟨#[105, 97]⟩, ⟨#[105, 99]⟩, ⟨#[105, 100]⟩]) (turns [w1, w2, w3] (sumW [w1, w2, w3]) m [0, 0, 0]) = ((roundK [⟨#[105, 97]⟩, ⟨#[105, 99]⟩, ⟨#[105, 100]⟩] [w1, w2, w3] m).map Value.string) := by
      simp only [roundK, List.map_map]; rfl
    rw [e]
    exact hK
  refine FnOK.weakT (FnOK.ttree SR_ok mixed Tryz.func24 some24 (loops_one one24 hC) (ro1011 w1 w2 w3 m ((roundK [⟨#[105, 97]⟩, ⟨#[105, 99]⟩, ⟨#[105, 100]⟩] [w1, w2, w3] m).map Value.string) (fun vals h => vals = [fz ⟨[.agg ⟨[.string ⟨#[105, 97]⟩, .int .i64 w1]⟩, .agg ⟨[.string ⟨#[105, 99]⟩, .int .i64 w2]⟩, .agg ⟨[.string ⟨#[105, 100]⟩, .int .i64 w3]⟩]⟩, .slice (some ⟨0, 0, none⟩) 3 3, .int .i64 (sumW [w1, w2, w3]), .slice none 0 0, .int .i64 m, .int .i64 0] ∧ h = ⟨1, 1, [(0, .cells ⟨[.int .i64 0, .int .i64 0, .int .i64 0]⟩ 3)]⟩) _) ?_)
  exact cut_mk (by simp; omega) (cut_mk (by simp; omega) (cut_mk (by simp; omega) (cut_mk (by simp; omega) (cut_mk (by simp; omega) (cut_mk (by simp; omega) (cut_mk (by simp; omega) (⟨⟨rfl, rfl⟩, _, _, _, rfl, freezeS _ _ (roundK_len _ _ _) rfl, rfl⟩)))))))
theorem spRound1011 : SpOK (spRound [⟨#[105, 97]⟩, ⟨#[105, 99]⟩, ⟨#[105, 100]⟩]) := by
  refine spRound_ok _ ?_
  intro ws hl hw m h1 h2
  match ws, hl, hw with
  | [w1, w2, w3], _, hw => exact round1011 w1 w2 w3 (hw w1 (by simp)) (hw w2 (by simp)) (hw w3 (by simp)) m h1 h2
theorem round1010 (w1 w2 : Int) (g1 : 1 ≤ w1 ∧ w1 ≤ 100) (g2 : 1 ≤ w2 ∧ w2 ≤ 100) (m : Nat) (h1 : 1 ≤ m) (h2 : m ≤ 2000) :
    FnOK 0 Tryz.prog 24 ⟨[fz ⟨[.agg ⟨[.string ⟨#[105, 97]⟩, .int .i64 w1]⟩, .agg ⟨[.string ⟨#[105, 99]⟩, .int .i64 w2]⟩]⟩, .int .i64 m]⟩ h0 (fun v _ => v = .tuple ⟨[fz ⟨((roundK [⟨#[105, 97]⟩, ⟨#[105, 99]⟩] [w1, w2] m).map Value.string)⟩, .int .i64 0]⟩) := by
  have hC : LSpec 0 Tryz.prog 74 (oneLoop (codeOf Tryz.f24) 12) (hookLS 0 74 [0, 7, 8, 9, 28, 29] [1] [9] (fun vals h K => (vals = [fz ⟨[.agg ⟨[.string ⟨#[105, 97]⟩, .int .i64 w1]⟩, .agg ⟨[.string ⟨#[105, 99]⟩, .int .i64 w2]⟩]⟩, .slice (some ⟨0, 0, none⟩) 2 2, .int .i64 (sumW [w1, w2]), .slice none 0 0, .int .i64 m, .int .i64 0] ∧ h = ⟨1, 1, [(0, .cells ⟨[.int .i64 0, .int .i64 0]⟩ 3)]⟩) ∧ K (.exit 0) [.slice (some ⟨0, 0, none⟩) m m] ⟨1, 1, [(0, .cells ⟨((roundK [⟨#[105, 97]⟩, ⟨#[105, 99]⟩] [w1, w2] m).map Value.string)⟩ 9)]⟩)) := by
    refine hook_ok (G := [(2, false)]) (L := noHooks) (f := 100) (sameX := [0]) SR_ok mixed (by decide) (loops_none _ _ _ _) ?_
    rintro vals h K ⟨⟨rfl, rfl⟩, hK⟩
    refine ⟨m + 1, loop2 ⟨#[105, 97]⟩ ⟨#[105, 99]⟩ w1 w2 (sumW [w1, w2]) m h1 h2 ?_⟩
    have e : List.map (keyV [⟨#[105, 97]⟩, ⟨#[105, 99]⟩]) (turns [w1, w2] (sumW [w1, w2]) m [0, 0]) = ((roundK [⟨#[105, 97]⟩, ⟨#[105, 99]⟩] [w1, w2] m).map Value.string) := by
      simp only [roundK, List.map_map]; rfl
    rw [e]
    exact hK
  refine FnOK.weakT (FnOK.ttree SR_ok mixed Tryz.func24 some24 (loops_one one24 hC) (ro1010 w1 w2 m ((roundK [⟨#[105, 97]⟩, ⟨#[105, 99]⟩] [w1, w2] m).map Value.string) (fun vals h => vals = [fz ⟨[.agg ⟨[.string ⟨#[105, 97]⟩, .int .i64 w1]⟩, .agg ⟨[.string ⟨#[105, 99]⟩, .int .i64 w2]⟩]⟩, .slice (some ⟨0, 0, none⟩) 2 2, .int .i64 (sumW [w1, w2]), .slice none 0 0, .int .i64 m, .int .i64 0] ∧ h = ⟨1, 1, [(0, .cells ⟨[.int .i64 0, .int .i64 0]⟩ 3)]⟩) _) ?_)
  exact cut_mk (by simp; omega) (cut_mk (by simp; omega) (cut_mk (by simp; omega) (cut_mk (by simp; omega) (cut_mk (by simp; omega) (⟨⟨rfl, rfl⟩, _, _, _, rfl, freezeS _ _ (roundK_len _ _ _) rfl, rfl⟩)))))
theorem spRound1010 : SpOK (spRound [⟨#[105, 97]⟩, ⟨#[105, 99]⟩]) := by
  refine spRound_ok _ ?_
  intro ws hl hw m h1 h2
  match ws, hl, hw with
  | [w1, w2], _, hw => exact round1010 w1 w2 (hw w1 (by simp)) (hw w2 (by simp)) m h1 h2
theorem round1001 (w1 w2 : Int) (g1 : 1 ≤ w1 ∧ w1 ≤ 100) (g2 : 1 ≤ w2 ∧ w2 ≤ 100) (m : Nat) (h1 : 1 ≤ m) (h2 : m ≤ 2000) :
    FnOK 0 Tryz.prog 24 ⟨[fz ⟨[.agg ⟨[.string ⟨#[105, 97]⟩, .int .i64 w1]⟩, .agg ⟨[.string ⟨#[105, 100]⟩, .int .i64 w2]⟩]⟩, .int .i64 m]⟩ h0 (fun v _ => v = .tuple ⟨[fz ⟨((roundK [⟨#[105, 97]⟩, ⟨#[105, 100]⟩] [w1, w2] m).map Value.string)⟩, .int .i64 0]⟩) := by
  have hC : LSpec 0 Tryz.prog 74 (oneLoop (codeOf Tryz.f24) 12) (hookLS 0 74 [0, 7, 8, 9, 28, 29] [1] [9] (fun vals h K => (vals = [fz ⟨[.agg ⟨[.string ⟨#[105, 97]⟩, .int .i64 w1]⟩, .agg ⟨[.string ⟨#[105, 100]⟩, .int .i64 w2]⟩]⟩, .slice (some ⟨0, 0, none⟩) 2 2, .int .i64 (sumW [w1, w2]), .slice none 0 0, .int .i64 m, .int .i64 0] ∧ h = ⟨1, 1, [(0, .cells ⟨[.int .i64 0, .int .i64 0]⟩ 3)]⟩) ∧ K (.exit 0) [.slice (some ⟨0, 0, none⟩) m m] ⟨1, 1, [(0, .cells ⟨((roundK [⟨#[105, 97]⟩, ⟨#[105, 100]⟩] [w1, w2] m).map Value.string)⟩ 9)]⟩)) := by
    refine hook_ok (G := [(2, false)]) (L := noHooks) (f := 100) (sameX := [0]) SR_ok mixed (by decide) (loops_none _ _ _ _) ?_
    rintro vals h K ⟨⟨rfl, rfl⟩, hK⟩
    refine ⟨m + 1, loop2 ⟨#[105, 97]⟩ ⟨#[105, 100]⟩ w1 w2 (sumW [w1, w2]) m h1 h2 ?_⟩
    have e : List.map (keyV [⟨#[105, 97]⟩, ⟨#[105, 100]⟩]) (turns [w1, w2] (sumW [w1, w2]) m [0, 0]) = ((roundK [⟨#[105, 97]⟩, ⟨#[105, 100]⟩] [w1, w2] m).map Value.string) := by
      simp only [roundK, List.map_map]; rfl
    rw [e]
    exact hK
  refine FnOK.weakT (FnOK.ttree SR_ok mixed Tryz.func24 some24 (loops_one one24 hC) (ro1001 w1 w2 m ((roundK [⟨#[105, 97]⟩, ⟨#[105, 100]⟩] [w1, w2] m).map Value.string) (fun vals h => vals = [fz ⟨[.agg ⟨[.string ⟨#[105, 97]⟩, .int .i64 w1]⟩, .agg ⟨[.string ⟨#[105, 100]⟩, .int .i64 w2]⟩]⟩, .slice (some ⟨0, 0, none⟩) 2 2, .int .i64 (sumW [w1, w2]), .slice none 0 0, .int .i64 m, .int .i64 0] ∧ h = ⟨1, 1, [(0, .cells ⟨[.int .i64 0, .int .i64 0]⟩ 3)]⟩) _) ?_)
  exact cut_mk (by simp; omega) (cut_mk (by simp; omega) (cut_mk (by simp; omega) (cut_mk (by simp; omega) (cut_mk (by simp; omega) (⟨⟨rfl, rfl⟩, _, _, _, rfl, freezeS _ _ (roundK_len _ _ _) rfl, rfl⟩)))))
theorem spRound1001 : SpOK (spRound [⟨#[105, 97]⟩, ⟨#[105, 100]⟩]) := by
  refine spRound_ok _ ?_
  intro ws hl hw m h1 h2
  match ws, hl, hw with
  | [w1, w2], _, hw => exact round1001 w1 w2 (hw w1 (by simp)) (hw w2 (by simp)) m h1 h2
theorem round1000 (w1 : Int) (g1 : 1 ≤ w1 ∧ w1 ≤ 100) (m : Nat) (h1 : 1 ≤ m) (h2 : m ≤ 2000) :
    FnOK 0 Tryz.prog 24 ⟨[fz ⟨[.agg ⟨[.string ⟨#[105, 97]⟩, .int .i64 w1]⟩]⟩, .int .i64 m]⟩ h0 (fun v _ => v = .tuple ⟨[fz ⟨((roundK [⟨#[105, 97]⟩] [w1] m).map Value.string)⟩, .int .i64 0]⟩) := by
  have hC : LSpec 0 Tryz.prog 74 (oneLoop (codeOf Tryz.f24) 12) (hookLS 0 74 [0, 7, 8, 9, 28, 29] [1] [9] (fun vals h K => (vals = [fz ⟨[.agg ⟨[.string ⟨#[105, 97]⟩, .int .i64 w1]⟩]⟩, .slice (some ⟨0, 0, none⟩) 1 1, .int .i64 (sumW [w1]), .slice none 0 0, .int .i64 m, .int .i64 0] ∧ h = ⟨1, 1, [(0, .cells ⟨[.int .i64 0]⟩ 3)]⟩) ∧ K (.exit 0) [.slice (some ⟨0, 0, none⟩) m m] ⟨1, 1, [(0, .cells ⟨((roundK [⟨#[105, 97]⟩] [w1] m).map Value.string)⟩ 9)]⟩)) := by
    refine hook_ok (G := [(2, false)]) (L := noHooks) (f := 100) (sameX := [0]) SR_ok mixed (by decide) (loops_none _ _ _ _) ?_
    rintro vals h K ⟨⟨rfl, rfl⟩, hK⟩
    refine ⟨m + 1, loop1 ⟨#[105, 97]⟩ w1 (sumW [w1]) m h1 h2 ?_⟩
    have e : List.map (keyV [⟨#[105, 97]⟩]) (turns [w1] (sumW [w1]) m [0]) = ((roundK [⟨#[105, 97]⟩] [w1] m).map Value.string) := by
      simp only [roundK, List.map_map]; rfl
    rw [e]
    exact hK
  refine FnOK.weakT (FnOK.ttree SR_ok mixed Tryz.func24 some24 (loops_one one24 hC) (ro1000 w1 m ((roundK [⟨#[105, 97]⟩] [w1] m).map Value.string) (fun vals h => vals = [fz ⟨[.agg ⟨[.string ⟨#[105, 97]⟩, .int .i64 w1]⟩]⟩, .slice (some ⟨0, 0, none⟩) 1 1, .int .i64 (sumW [w1]), .slice none 0 0, .int .i64 m, .int .i64 0] ∧ h = ⟨1, 1, [(0, .cells ⟨[.int .i64 0]⟩ 3)]⟩) _) ?_)
  exact cut_mk (by simp; omega) (cut_mk (by simp; omega) (cut_mk (by simp; omega) (⟨⟨rfl, rfl⟩, _, _, _, rfl, freezeS _ _ (roundK_len _ _ _) rfl, rfl⟩)))
theorem spRound1000 : SpOK (spRound [⟨#[105, 97]⟩]) := by
  refine spRound_ok _ ?_
  intro ws hl hw m h1 h2
  match ws, hl, hw with
  | [w1], _, hw => exact round1000 w1 (hw w1 (by simp)) m h1 h2
theorem round0111 (w1 w2 w3 : Int) (g1 : 1 ≤ w1 ∧ w1 ≤ 100) (g2 : 1 ≤ w2 ∧ w2 ≤ 100) (g3 : 1 ≤ w3 ∧ w3 ≤ 100) (m : Nat) (h1 : 1 ≤ m) (h2 : m ≤ 2000) :
    FnOK 0 Tryz.prog 24 ⟨[fz ⟨[.agg ⟨[.string ⟨#[105, 98]⟩, .int .i64 w1]⟩, .agg ⟨[.string ⟨#[105, 99]⟩, .int .i64 w2]⟩, .agg ⟨[.string ⟨#[105, 100]⟩, .int .i64 w3]⟩]⟩, .int .i64 m]⟩ h0 (fun v _ => v = .tuple ⟨[fz ⟨((roundK [⟨#[105, 98]⟩, ⟨#[105, 99]⟩, ⟨#[105, 100]⟩] [w1, w2, w3] m).map Value.string)⟩, .int .i64 0]⟩) := by
  have hC : LSpec 0 Tryz.prog 74 (oneLoop (codeOf Tryz.f24) 12) (hookLS 0 74 [0, 7, 8, 9, 28, 29] [1] [9] (fun vals h K => (vals = [fz ⟨[.agg ⟨[.string ⟨#[105, 98]⟩, .int .i64 w1]⟩, .agg ⟨[.string ⟨#[105, 99]⟩, .int .i64 w2]⟩, .agg ⟨[.string ⟨#[105, 100]⟩, .int .i64 w3]⟩]⟩, .slice (some ⟨0, 0, none⟩) 3 3, .int .i64 (sumW [w1, w2, w3]), .slice none 0 0, .int .i64 m, .int .i64 0] ∧ h = ⟨1, 1, [(0, .cells ⟨[.int .i64 0, .int .i64 0, .int .i64 0]⟩ 3)]⟩) ∧ K (.exit 0) [.slice (some ⟨0, 0, none⟩) m m] ⟨1, 1, [(0, .cells ⟨((roundK [⟨#[105, 98]⟩, ⟨#[105, 99]⟩, ⟨#[105, 100]⟩] [w1, w2, w3] m).map Value.string)⟩ 9)]⟩)) := by
    refine hook_ok (G := [(2, false)]) (L := noHooks) (f := 100) (sameX := [0]) SR_ok mixed (by decide) (loops_none _ _ _ _) ?_
    rintro vals h K ⟨⟨rfl, rfl⟩, hK⟩
    refine ⟨m + 1, loop3 ⟨#[105, 98]⟩ ⟨#[105, 99]⟩ ⟨#[105, 100]⟩ w1 w2 w3 (sumW [w1, w2, w3]) m h1 h2 ?_⟩
    have e : List.map (keyV [⟨#[105, 98]⟩, ⟨#[105, 99]⟩, ⟨#[105, 100]⟩]) (turns [w1, w2, w3] (sumW [w1, w2, w3]) m [0, 0, 0]) = ((roundK [⟨#[105, 98]⟩, ⟨#[105, 99]⟩, ⟨#[105, 100]⟩] [w1, w2, w3] m).map Value.string) := by
      simp only [roundK, List.map_map]; rfl
    rw [e]
    exact hK
  refine FnOK.weakT (FnOK.ttree SR_ok mixed Tryz.func24 some24 (loops_one one24 hC) (ro0111 w1 w2 w3 m ((roundK [⟨#[105, 98]⟩, ⟨#[105, 99]⟩, ⟨#[105, 100]⟩] [w1, w2, w3] m).map Value.string) (fun vals h => vals = [fz ⟨[.agg ⟨[.string ⟨#[105, 98]⟩, .int .i64 w1]⟩, .agg ⟨[.string ⟨#[105, 99]⟩, .int .i64 w2]⟩, .agg ⟨[.string ⟨#[105, 100]⟩, .int .i64 w3]⟩]⟩, .slice (some ⟨0, 0, none⟩) 3 3, .int .i64 (sumW [w1, w2, w3]), .slice none 0 0, .int .i64 m, .int .i64 0] ∧ h = ⟨1, 1, [(0, .cells ⟨[.int .i64 0, .int .i64 0, .int .i64 0]⟩ 3)]⟩) _) ?_)
  exact cut_mk (by simp; omega) (cut_mk (by simp; omega) (cut_mk (by simp; omega) (cut_mk (by simp; omega) (cut_mk (by simp; omega) (cut_mk (by simp; omega) (cut_mk (by simp; omega) (⟨⟨rfl, rfl⟩, _, _, _, rfl, freezeS _ _ (roundK_len _ _ _) rfl, rfl⟩)))))))
theorem spRound0111 : SpOK (spRound [⟨#[105, 98]⟩, ⟨#[105, 99]⟩, ⟨#[105, 100]⟩]) := by
  refine spRound_ok _ ?_
  intro ws hl hw m h1 h2
  match ws, hl, hw with
  | [w1, w2, w3], _, hw => exact round0111 w1 w2 w3 (hw w1 (by simp)) (hw w2 (by simp)) (hw w3 (by simp)) m h1 h2
theorem round0110 (w1 w2 : Int) (g1 : 1 ≤ w1 ∧ w1 ≤ 100) (g2 : 1 ≤ w2 ∧ w2 ≤ 100) (m : Nat) (h1 : 1 ≤ m) (h2 : m ≤ 2000) :
    FnOK 0 Tryz.prog 24 ⟨[fz ⟨[.agg ⟨[.string ⟨#[105, 98]⟩, .int .i64 w1]⟩, .agg ⟨[.string ⟨#[105, 99]⟩, .int .i64 w2]⟩]⟩, .int .i64 m]⟩ h0 (fun v _ => v = .tuple ⟨[fz ⟨((roundK [⟨#[105, 98]⟩, ⟨#[105, 99]⟩] [w1, w2] m).map Value.string)⟩, .int .i64 0]⟩) := by
  have hC : LSpec 0 Tryz.prog 74 (oneLoop (codeOf Tryz.f24) 12) (hookLS 0 74 [0, 7, 8, 9, 28, 29] [1] [9] (fun vals h K => (vals = [fz ⟨[.agg ⟨[.string ⟨#[105, 98]⟩, .int .i64 w1]⟩, .agg ⟨[.string ⟨#[105, 99]⟩, .int .i64 w2]⟩]⟩, .slice (some ⟨0, 0, none⟩) 2 2, .int .i64 (sumW [w1, w2]), .slice none 0 0, .int .i64 m, .int .i64 0] ∧ h = ⟨1, 1, [(0, .cells ⟨[.int .i64 0, .int .i64 0]⟩ 3)]⟩) ∧ K (.exit 0) [.slice (some ⟨0, 0, none⟩) m m] ⟨1, 1, [(0, .cells ⟨((roundK [⟨#[105, 98]⟩, ⟨#[105, 99]⟩] [w1, w2] m).map Value.string)⟩ 9)]⟩)) := by
    refine hook_ok (G := [(2, false)]) (L := noHooks) (f := 100) (sameX := [0]) SR_ok mixed (by decide) (loops_none _ _ _ _) ?_
    rintro vals h K ⟨⟨rfl, rfl⟩, hK⟩
    refine ⟨m + 1, loop2 ⟨#[105, 98]⟩ ⟨#[105, 99]⟩ w1 w2 (sumW [w1, w2]) m h1 h2 ?_⟩
    have e : List.map (keyV [⟨#[105, 98]⟩, ⟨#[105, 99]⟩]) (turns [w1, w2] (sumW [w1, w2]) m [0, 0]) = ((roundK [⟨#[105, 98]⟩, ⟨#[105, 99]⟩] [w1, w2] m).map Value.string) := by
      simp only [roundK, List.map_map]; rfl
    rw [e]
    exact hK
  refine FnOK.weakT (FnOK.ttree SR_ok mixed Tryz.func24 some24 (loops_one one24 hC) (ro0110 w1 w2 m ((roundK [⟨#[105, 98]⟩, ⟨#[105, 99]⟩] [w1, w2] m).map Value.string) (fun vals h => vals = [fz ⟨[.agg ⟨[.string ⟨#[105, 98]⟩, .int .i64 w1]⟩, .agg ⟨[.string ⟨#[105, 99]⟩, .int .i64 w2]⟩]⟩, .slice (some ⟨0, 0, none⟩) 2 2, .int .i64 (sumW [w1, w2]), .slice none 0 0, .int .i64 m, .int .i64 0] ∧ h = ⟨1, 1, [(0, .cells ⟨[.int .i64 0, .int .i64 0]⟩ 3)]⟩) _) ?_)
  exact cut_mk (by simp; omega) (cut_mk (by simp; omega) (cut_mk (by simp; omega) (cut_mk (by simp; omega) (cut_mk (by simp; omega) (⟨⟨rfl, rfl⟩, _, _, _, rfl, freezeS _ _ (roundK_len _ _ _) rfl, rfl⟩)))))
theorem spRound0110 : SpOK (spRound [⟨#[105, 98]⟩, ⟨#[105, 99]⟩]) := by
  refine spRound_ok _ ?_
  intro ws hl hw m h1 h2
  match ws, hl, hw with
  | [w1, w2], _, hw => exact round0110 w1 w2 (hw w1 (by simp)) (hw w2 (by simp)) m h1 h2
theorem round0101 (w1 w2 : Int) (g1 : 1 ≤ w1 ∧ w1 ≤ 100) (g2 : 1 ≤ w2 ∧ w2 ≤ 100) (m : Nat) (h1 : 1 ≤ m) (h2 : m ≤ 2000) :
    FnOK 0 Tryz.prog 24 ⟨[fz ⟨[.agg ⟨[.string ⟨#[105, 98]⟩, .int .i64 w1]⟩, .agg ⟨[.string ⟨#[105, 100]⟩, .int .i64 w2]⟩]⟩, .int .i64 m]⟩ h0 (fun v _ => v = .tuple ⟨[fz ⟨((roundK [⟨#[105, 98]⟩, ⟨#[105, 100]⟩] [w1, w2] m).map Value.string)⟩, .int .i64 0]⟩) := by
  have hC : LSpec 0 Tryz.prog 74 (oneLoop (codeOf Tryz.f24) 12) (hookLS 0 74 [0, 7, 8, 9, 28, 29] [1] [9] (fun vals h K => (vals = [fz ⟨[.agg ⟨[.string ⟨#[105, 98]⟩, .int .i64 w1]⟩, .agg ⟨[.string ⟨#[105, 100]⟩, .int .i64 w2]⟩]⟩, .slice (some ⟨0, 0, none⟩) 2 2, .int .i64 (sumW [w1, w2]), .slice none 0 0, .int .i64 m, .int .i64 0] ∧ h = ⟨1, 1, [(0, .cells ⟨[.int .i64 0, .int .i64 0]⟩ 3)]⟩) ∧ K (.exit 0) [.slice (some ⟨0, 0, none⟩) m m] ⟨1, 1, [(0, .cells ⟨((roundK [⟨#[105, 98]⟩, ⟨#[105, 100]⟩] [w1, w2] m).map Value.string)⟩ 9)]⟩)) := by
    refine hook_ok (G := [(2, false)]) (L := noHooks) (f := 100) (sameX := [0]) SR_ok mixed (by decide) (loops_none _ _ _ _) ?_
    rintro vals h K ⟨⟨rfl, rfl⟩, hK⟩
    refine ⟨m + 1, loop2 ⟨#[105, 98]⟩ ⟨#[105, 100]⟩ w1 w2 (sumW [w1, w2]) m h1 h2 ?_⟩
    have e : List.map (keyV [⟨#[105, 98]⟩, ⟨#[105, 100]⟩]) (turns [w1, w2] (sumW [w1, w2]) m [0, 0]) = ((roundK [⟨#[105, 98]⟩, ⟨#[105, 100]⟩] [w1, w2] m).map Value.string) := by
      simp only [roundK, List.map_map]; rfl
    rw [e]
    exact hK
  refine FnOK.weakT (FnOK.ttree SR_ok mixed Tryz.func24 some24 (loops_one one24 hC) (ro0101 w1 w2 m ((roundK [⟨#[105, 98]⟩, ⟨#[105, 100]⟩] [w1, w2] m).map Value.string) (fun vals h => vals = [fz ⟨[.agg ⟨[.string ⟨#[105, 98]⟩, .int .i64 w1]⟩, .agg ⟨[.string ⟨#[105, 100]⟩, .int .i64 w2]⟩]⟩, .slice (some ⟨0, 0, none⟩) 2 2, .int .i64 (sumW [w1, w2]), .slice none 0 0, .int .i64 m, .int .i64 0] ∧ h = ⟨1, 1, [(0, .cells ⟨[.int .i64 0, .int .i64 0]⟩ 3)]⟩) _) ?_)
  exact cut_mk (by simp; omega) (cut_mk (by simp; omega) (cut_mk (by simp; omega) (cut_mk (by simp; omega) (cut_mk (by simp; omega) (⟨⟨rfl, rfl⟩, _, _, _, rfl, freezeS _ _ (roundK_len _ _ _) rfl, rfl⟩)))))
theorem spRound0101 : SpOK (spRound [⟨#[105, 98]⟩, ⟨#[105, 100]⟩]) := by
  refine spRound_ok _ ?_
  intro ws hl hw m h1 h2
  match ws, hl, hw with
  | [w1, w2], _, hw => exact round0101 w1 w2 (hw w1 (by simp)) (hw w2 (by simp)) m h1 h2
theorem round0100 (w1 : Int) (g1 : 1 ≤ w1 ∧ w1 ≤ 100) (m : Nat) (h1 : 1 ≤ m) (h2 : m ≤ 2000) :
    FnOK 0 Tryz.prog 24 ⟨[fz ⟨[.agg ⟨[.string ⟨#[105, 98]⟩, .int .i64 w1]⟩]⟩, .int .i64 m]⟩ h0 (fun v _ => v = .tuple ⟨[fz ⟨((roundK [⟨#[105, 98]⟩] [w1] m).map Value.string)⟩, .int .i64 0]⟩) := by
  have hC : LSpec 0 Tryz.prog 74 (oneLoop (codeOf Tryz.f24) 12) (hookLS 0 74 [0, 7, 8, 9, 28, 29] [1] [9] (fun vals h K => (vals = [fz ⟨[.agg ⟨[.string ⟨#[105, 98]⟩, .int .i64 w1]⟩]⟩, .slice (some ⟨0, 0, none⟩) 1 1, .int .i64 (sumW [w1]), .slice none 0 0, .int .i64 m, .int .i64 0] ∧ h = ⟨1, 1, [(0, .cells ⟨[.int .i64 0]⟩ 3)]⟩) ∧ K (.exit 0) [.slice (some ⟨0, 0, none⟩) m m] ⟨1, 1, [(0, .cells ⟨((roundK [⟨#[105, 98]⟩] [w1] m).map Value.string)⟩ 9)]⟩)) := by
    refine hook_ok (G := [(2, false)]) (L := noHooks) (f := 100) (sameX := [0]) SR_ok mixed (by decide) (loops_none _ _ _ _) ?_
    rintro vals h K ⟨⟨rfl, rfl⟩, hK⟩
    refine ⟨m + 1, loop1 ⟨#[105, 98]⟩ w1 (sumW [w1]) m h1 h2 ?_⟩
    have e : List.map (keyV [⟨#[105, 98]⟩]) (turns [w1] (sumW [w1]) m [0]) = ((roundK [⟨#[105, 98]⟩] [w1] m).map Value.string) := by
      simp only [roundK, List.map_map]; rfl
    rw [e]
    exact hK
  refine FnOK.weakT (FnOK.ttree SR_ok mixed Tryz.func24 some24 (loops_one one24 hC) (ro0100 w1 m ((roundK [⟨#[105, 98]⟩] [w1] m).map Value.string) (fun vals h => vals = [fz ⟨[.agg ⟨[.string ⟨#[105, 98]⟩, .int .i64 w1]⟩]⟩, .slice (some ⟨0, 0, none⟩) 1 1, .int .i64 (sumW [w1]), .slice none 0 0, .int .i64 m, .int .i64 0] ∧ h = ⟨1, 1, [(0, .cells ⟨[.int .i64 0]⟩ 3)]⟩) _) ?_)
  exact cut_mk (by simp; omega) (cut_mk (by simp; omega) (cut_mk (by simp; omega) (⟨⟨rfl, rfl⟩, _, _, _, rfl, freezeS _ _ (roundK_len _ _ _) rfl, rfl⟩)))
theorem spRound0100 : SpOK (spRound [⟨#[105, 98]⟩]) := by
  refine spRound_ok _ ?_
  intro ws hl hw m h1 h2
  match ws, hl, hw with
  | [w1], _, hw => exact round0100 w1 (hw w1 (by simp)) m h1 h2
theorem round0011 (w1 w2 : Int) (g1 : 1 ≤ w1 ∧ w1 ≤ 100) (g2 : 1 ≤ w2 ∧ w2 ≤ 100) (m : Nat) (h1 : 1 ≤ m) (h2 : m ≤ 2000) :
    FnOK 0 Tryz.prog 24 ⟨[fz ⟨[.agg ⟨[.string ⟨#[105, 99]⟩, .int .i64 w1]⟩, .agg ⟨[.string ⟨#[105, 100]⟩, .int .i64 w2]⟩]⟩, .int .i64 m]⟩ h0 (fun v _ => v = .tuple ⟨[fz ⟨((roundK [⟨#[105, 99]⟩, ⟨#[105, 100]⟩] [w1, w2] m).map Value.string)⟩, .int .i64 0]⟩) := by
  have hC : LSpec 0 Tryz.prog 74 (oneLoop (codeOf Tryz.f24) 12) (hookLS 0 74 [0, 7, 8, 9, 28, 29] [1] [9] (fun vals h K => (vals = [fz ⟨[.agg ⟨[.string ⟨#[105, 99]⟩, .int .i64 w1]⟩, .agg ⟨[.string ⟨#[105, 100]⟩, .int .i64 w2]⟩]⟩, .slice (some ⟨0, 0, none⟩) 2 2, .int .i64 (sumW [w1, w2]), .slice none 0 0, .int .i64 m, .int .i64 0] ∧ h = ⟨1, 1, [(0, .cells ⟨[.int .i64 0, .int .i64 0]⟩ 3)]⟩) ∧ K (.exit 0) [.slice (some ⟨0, 0, none⟩) m m] ⟨1, 1, [(0, .cells ⟨((roundK [⟨#[105, 99]⟩, ⟨#[105, 100]⟩] [w1, w2] m).map Value.string)⟩ 9)]⟩)) := by
    refine hook_ok (G := [(2, false)]) (L := noHooks) (f := 100) (sameX := [0]) SR_ok mixed (by decide) (loops_none _ _ _ _) ?_
    rintro vals h K ⟨⟨rfl, rfl⟩, hK⟩
    refine ⟨m + 1, loop2 ⟨#[105, 99]⟩ ⟨#[105, 100]⟩ w1 w2 (sumW [w1, w2]) m h1 h2 ?_⟩
    have e : List.map (keyV [⟨#[105, 99]⟩, ⟨#[105, 100]⟩]) (turns [w1, w2] (sumW [w1, w2]) m [0, 0]) = ((roundK [⟨#[105, 99]⟩, ⟨#[105, 100]⟩] [w1, w2] m).map Value.string) := by
      simp only [roundK, List.map_map]; rfl
    rw [e]
    exact hK
  refine FnOK.weakT (FnOK.ttree SR_ok mixed Tryz.func24 some24 (loops_one one24 hC) (ro0011 w1 w2 m ((roundK [⟨#[105, 99]⟩, ⟨#[105, 100]⟩] [w1, w2] m).map Value.string) (fun vals h => vals = [fz ⟨[.agg ⟨[.string ⟨#[105, 99]⟩, .int .i64 w1]⟩, .agg ⟨[.string ⟨#[105, 100]⟩, .int .i64 w2]⟩]⟩, .slice (some ⟨0, 0, none⟩) 2 2, .int .i64 (sumW [w1, w2]), .slice none 0 0, .int .i64 m, .int .i64 0] ∧ h = ⟨1, 1, [(0, .cells ⟨[.int .i64 0, .int .i64 0]⟩ 3)]⟩) _) ?_)
  exact cut_mk (by simp; omega) (cut_mk (by simp; omega) (cut_mk (by simp; omega) (cut_mk (by simp; omega) (cut_mk (by simp; omega) (⟨⟨rfl, rfl⟩, _, _, _, rfl, freezeS _ _ (roundK_len _ _ _) rfl, rfl⟩)))))
theorem spRound0011 : SpOK (spRound [⟨#[105, 99]⟩, ⟨#[105, 100]⟩]) := by
  refine spRound_ok _ ?_
  intro ws hl hw m h1 h2
  match ws, hl, hw with
  | [w1, w2], _, hw => exact round0011 w1 w2 (hw w1 (by simp)) (hw w2 (by simp)) m h1 h2
theorem round0010 (w1 : Int) (g1 : 1 ≤ w1 ∧ w1 ≤ 100) (m : Nat) (h1 : 1 ≤ m) (h2 : m ≤ 2000) :
    FnOK 0 Tryz.prog 24 ⟨[fz ⟨[.agg ⟨[.string ⟨#[105, 99]⟩, .int .i64 w1]⟩]⟩, .int .i64 m]⟩ h0 (fun v _ => v = .tuple ⟨[fz ⟨((roundK [⟨#[105, 99]⟩] [w1] m).map Value.string)⟩, .int .i64 0]⟩) := by
  have hC : LSpec 0 Tryz.prog 74 (oneLoop (codeOf Tryz.f24) 12) (hookLS 0 74 [0, 7, 8, 9, 28, 29] [1] [9] (fun vals h K => (vals = [fz ⟨[.agg ⟨[.string ⟨#[105, 99]⟩, .int .i64 w1]⟩]⟩, .slice (some ⟨0, 0, none⟩) 1 1, .int .i64 (sumW [w1]), .slice none 0 0, .int .i64 m, .int .i64 0] ∧ h = ⟨1, 1, [(0, .cells ⟨[.int .i64 0]⟩ 3)]⟩) ∧ K (.exit 0) [.slice (some ⟨0, 0, none⟩) m m] ⟨1, 1, [(0, .cells ⟨((roundK [⟨#[105, 99]⟩] [w1] m).map Value.string)⟩ 9)]⟩)) := by
    refine hook_ok (G := [(2, false)]) (L := noHooks) (f := 100) (sameX := [0]) SR_ok mixed (by decide) (loops_none _ _ _ _) ?_
    rintro vals h K ⟨⟨rfl, rfl⟩, hK⟩
    refine ⟨m + 1, loop1 ⟨#[105, 99]⟩ w1 (sumW [w1]) m h1 h2 ?_⟩
    have e : List.map (keyV [⟨#[105, 99]⟩]) (turns [w1] (sumW [w1]) m [0]) = ((roundK [⟨#[105, 99]⟩] [w1] m).map Value.string) := by
      simp only [roundK, List.map_map]; rfl
    rw [e]
    exact hK
  refine FnOK.weakT (FnOK.ttree SR_ok mixed Tryz.func24 some24 (loops_one one24 hC) (ro0010 w1 m ((roundK [⟨#[105, 99]⟩] [w1] m).map Value.string) (fun vals h => vals = [fz ⟨[.agg ⟨[.string ⟨#[105, 99]⟩, .int .i64 w1]⟩]⟩, .slice (some ⟨0, 0, none⟩) 1 1, .int .i64 (sumW [w1]), .slice none 0 0, .int .i64 m, .int .i64 0] ∧ h = ⟨1, 1, [(0, .cells ⟨[.int .i64 0]⟩ 3)]⟩) _) ?_)
  exact cut_mk (by simp; omega) (cut_mk (by simp; omega) (cut_mk (by simp; omega) (⟨⟨rfl, rfl⟩, _, _, _, rfl, freezeS _ _ (roundK_len _ _ _) rfl, rfl⟩)))
theorem spRound0010 : SpOK (spRound [⟨#[105, 99]⟩]) := by
  refine spRound_ok _ ?_
  intro ws hl hw m h1 h2
  match ws, hl, hw with
  | [w1], _, hw => exact round0010 w1 (hw w1 (by simp)) m h1 h2
theorem round0001 (w1 : Int) (g1 : 1 ≤ w1 ∧ w1 ≤ 100) (m : Nat) (h1 : 1 ≤ m) (h2 : m ≤ 2000) :
    FnOK 0 Tryz.prog 24 ⟨[fz ⟨[.agg ⟨[.string ⟨#[105, 100]⟩, .int .i64 w1]⟩]⟩, .int .i64 m]⟩ h0 (fun v _ => v = .tuple ⟨[fz ⟨((roundK [⟨#[105, 100]⟩] [w1] m).map Value.string)⟩, .int .i64 0]⟩) := by
  have hC : LSpec 0 Tryz.prog 74 (oneLoop (codeOf Tryz.f24) 12) (hookLS 0 74 [0, 7, 8, 9, 28, 29] [1] [9] (fun vals h K => (vals = [fz ⟨[.agg ⟨[.string ⟨#[105, 100]⟩, .int .i64 w1]⟩]⟩, .slice (some ⟨0, 0, none⟩) 1 1, .int .i64 (sumW [w1]), .slice none 0 0, .int .i64 m, .int .i64 0] ∧ h = ⟨1, 1, [(0, .cells ⟨[.int .i64 0]⟩ 3)]⟩) ∧ K (.exit 0) [.slice (some ⟨0, 0, none⟩) m m] ⟨1, 1, [(0, .cells ⟨((roundK [⟨#[105, 100]⟩] [w1] m).map Value.string)⟩ 9)]⟩)) := by
    refine hook_ok (G := [(2, false)]) (L := noHooks) (f := 100) (sameX := [0]) SR_ok mixed (by decide) (loops_none _ _ _ _) ?_
    rintro vals h K ⟨⟨rfl, rfl⟩, hK⟩
    refine ⟨m + 1, loop1 ⟨#[105, 100]⟩ w1 (sumW [w1]) m h1 h2 ?_⟩
    have e : List.map (keyV [⟨#[105, 100]⟩]) (turns [w1] (sumW [w1]) m [0]) = ((roundK [⟨#[105, 100]⟩] [w1] m).map Value.string) := by
      simp only [roundK, List.map_map]; rfl
    rw [e]
    exact hK
  refine FnOK.weakT (FnOK.ttree SR_ok mixed Tryz.func24 some24 (loops_one one24 hC) (ro0001 w1 m ((roundK [⟨#[105, 100]⟩] [w1] m).map Value.string) (fun vals h => vals = [fz ⟨[.agg ⟨[.string ⟨#[105, 100]⟩, .int .i64 w1]⟩]⟩, .slice (some ⟨0, 0, none⟩) 1 1, .int .i64 (sumW [w1]), .slice none 0 0, .int .i64 m, .int .i64 0] ∧ h = ⟨1, 1, [(0, .cells ⟨[.int .i64 0]⟩ 3)]⟩) _) ?_)
  exact cut_mk (by simp; omega) (cut_mk (by simp; omega) (cut_mk (by simp; omega) (⟨⟨rfl, rfl⟩, _, _, _, rfl, freezeS _ _ (roundK_len _ _ _) rfl, rfl⟩)))
theorem spRound0001 : SpOK (spRound [⟨#[105, 100]⟩]) := by
  refine spRound_ok _ ?_
  intro ws hl hw m h1 h2
  match ws, hl, hw with
  | [w1], _, hw => exact round0001 w1 (hw w1 (by simp)) m h1 h2
end Go.Proofs.YtddhljigbchemaaGreatDoor
