/-
  'slices.Equal' for strings as a specification, and the loop that counts a key, told by a plain function.
-/
import Derived.Test.YtddhljigbchemaaGreatDoorRoundB
namespace Go.Proofs.YtddhljigbchemaaGreatDoor
open Go.Ev Go.RowKit

def SQ : SC := ⟨idn, fun _ _ _ => none, true, false⟩
theorem SQ_ok : SQ.cfg.OK Tryz.prog := none_ok.cfg
def isStr : Value → Bool
  | .string _ => true
  | _ => false
def eqS : List Value → List Value → Bool
  | [], [] => true
  | a :: l, b :: r => ((toStr a).toList == (toStr b).toList) && eqS l r
  | _, _ => false
theorem eqS_self : ∀ l : List Value, eqS l l = true
  | [] => rfl
  | a :: l => by simp [eqS, eqS_self l]
/-- How often a key stands in a list. -/
def cntS (k : ByteArray) : List Value → Int
  | [] => 0
  | y :: l => cond ((toStr y).toList == k.toList) (cntS k l + 1) (cntS k l)
theorem cntS_in (k : ByteArray) : ∀ l : List Value, 0 ≤ cntS k l ∧ cntS k l ≤ l.length
  | [] => by simp [cntS]
  | y :: l => by
    have := cntS_in k l
    simp only [cntS, List.length_cons]
    cases ((toStr y).toList == k.toList) <;> simp only [cond_true, cond_false] <;> omega
theorem str_get {l : List Value} (h : l.all isStr = true) {i : Nat} (hi : i < l.length) : l.getD i (Value.tuple { toList := [] }) = .string (toStr (l.getD i (Value.tuple { toList := [] }))) := by
  have : l.getD i (Value.tuple { toList := [] }) = l[i] := by simp [List.getD, hi]
  rw [this]
  have := List.all_eq_true.1 h l[i] (List.getElem_mem hi)
  cases hl : l[i] <;> rw [hl] at this <;> first | rfl | cases this
theorem drop_cons {l : List Value} {i : Nat} (hi : i < l.length) : l.drop i = l.getD i (Value.tuple { toList := [] }) :: l.drop (i + 1) := by
  rw [List.drop_eq_getElem_cons hi]
  simp [List.getD, hi]

theorem eq_loop {F : Nat → List Value → AH → (AExit → List Value → AH → Prop) → Prop} {K : AExit → List Value → AH → Prop} {xs ys : List Value} {n : Int}
    (hF : ∀ (m : Nat) (i : Int), F (m + 1) [fz ⟨xs⟩, fz ⟨ys⟩, .int .i64 n, .int .i64 i] h0 K =
    bif decide (i < n) then
      bif decide (0 ≤ i) && decide (i < ↑(Array.mk xs).size) && true then
        (Array.mk xs).toList.getD i.toNat (Value.tuple { toList := [] }) =
            Value.string (toStr ((Array.mk xs).toList.getD i.toNat (Value.tuple { toList := [] }))) ∧
          bif decide (0 ≤ i) && decide (i < ↑(Array.mk ys).size) && true then
            (Array.mk ys).toList.getD i.toNat (Value.tuple { toList := [] }) =
                Value.string (toStr ((Array.mk ys).toList.getD i.toNat (Value.tuple { toList := [] }))) ∧
              bif
                  !(toStr ((Array.mk xs).toList.getD i.toNat (Value.tuple { toList := [] }))).toList ==
                      (toStr ((Array.mk ys).toList.getD i.toNat (Value.tuple { toList := [] }))).toList then
                K AExit.ret [Value.bool false] { next := 0, low := 0, blocks := [] }
              else
                (fun v g => F m v g K)
                  [Value.func (Fn.yield 0) { toList := xs } { toList := [] },
                    Value.func (Fn.yield 0) { toList := ys } { toList := [] }, Value.int IntKind.i64 n,
                    Value.int IntKind.i64 (IntKind.i64.wrap (i + 1))]
                  { next := 0, low := 0, blocks := [] }
          else False
      else False
    else K (AExit.exit 0) [Value.func (Fn.yield 2) { toList := [] } { toList := [] }] { next := 0, low := 0, blocks := [] })
    (hx : xs.all isStr = true) (hy : ys.all isStr = true) (h1 : (xs.length : Int) = n) (h2 : (ys.length : Int) = n) (h3 : n ≤ 4000) :
    ∀ (r i : Nat), (i : Int) + r = n → cond (eqS (xs.drop i) (ys.drop i)) (K (.exit 0) [anyV] h0) (K .ret [.bool false] h0) → F (r + 1) [fz ⟨xs⟩, fz ⟨ys⟩, .int .i64 n, .int .i64 i] h0 K := by
  intro r
  induction r with
  | zero =>
    intro i h4 h5
    rw [hF]
    refine pick_f (by simp; omega) ?_
    rw [List.drop_eq_nil_of_le (by omega), List.drop_eq_nil_of_le (by omega)] at h5
    exact h5
  | succ r ih =>
    intro i h4 h5
    rw [hF]
    have i1 : i < xs.length := by omega
    have i2 : i < ys.length := by omega
    have e1 := str_get hx i1
    have e2 := str_get hy i2
    rw [drop_cons i1, drop_cons i2] at h5
    simp only [eqS] at h5
    refine pick_t (by simp; omega) (need_mk (by simp; omega) ⟨by simpa using e1, need_mk (by simp; omega) ⟨by simpa using e2, ?_⟩⟩)
    rw [Int.toNat_natCast]
    cases hb : ((toStr (xs.getD i (Value.tuple { toList := [] }))).toList == (toStr (ys.getD i (Value.tuple { toList := [] }))).toList) with
    | true =>
      rw [hb] at h5
      refine pick_f rfl ?_
      rw [wrap_id _ (by omega) (by omega)]
      exact ih (i + 1) (by omega) (by simpa using h5)
    | false =>
      rw [hb] at h5
      refine pick_t rfl ?_
      exact h5

theorem eqo (xs ys : List Value) (n i : Int) (B : List Value → AH → Prop) (Q : AExit → List Value → AH → Prop) : (once 0 Tryz.prog SQ [] noHooks 100 26 [0, 1, 12, 13] [] [4] [] (oneLoop (codeOf Tryz.f22) 4) [fz ⟨xs⟩, fz ⟨ys⟩, .int .i64 n, .int .i64 i] h0 B Q) =
    bif decide (i < n) then
      bif decide (0 ≤ i) && decide (i < ↑(Array.mk xs).size) && true then
        (Array.mk xs).toList.getD i.toNat (Value.tuple { toList := [] }) =
            Value.string (toStr ((Array.mk xs).toList.getD i.toNat (Value.tuple { toList := [] }))) ∧
          bif decide (0 ≤ i) && decide (i < ↑(Array.mk ys).size) && true then
            (Array.mk ys).toList.getD i.toNat (Value.tuple { toList := [] }) =
                Value.string (toStr ((Array.mk ys).toList.getD i.toNat (Value.tuple { toList := [] }))) ∧
              bif
                  !(toStr ((Array.mk xs).toList.getD i.toNat (Value.tuple { toList := [] }))).toList ==
                      (toStr ((Array.mk ys).toList.getD i.toNat (Value.tuple { toList := [] }))).toList then
                Q AExit.ret [Value.bool false] { next := 0, low := 0, blocks := [] }
              else
                B
                  [Value.func (Fn.yield 0) { toList := xs } { toList := [] },
                    Value.func (Fn.yield 0) { toList := ys } { toList := [] }, Value.int IntKind.i64 n,
                    Value.int IntKind.i64 (IntKind.i64.wrap (i + 1))]
                  { next := 0, low := 0, blocks := [] }
          else False
      else False
    else Q (AExit.exit 0) [Value.func (Fn.yield 2) { toList := [] } { toList := [] }] { next := 0, low := 0, blocks := [] } := by kernel_rfl
theorem eqf (xs ys : List Value) (r : Bool) (C : List Value → AH → Prop) (Q : Value → AH → Prop) : (tfn Tryz.prog SQ [] (hook1 4 (hookLS 0 26 [0, 1, 12, 13] [] [4] (fun vals h K => C vals h ∧ cond r (K (.exit 0) [anyV] h0) (K .ret [.bool false] h0)))) 200 [] Tryz.f22 [fz ⟨xs⟩, fz ⟨ys⟩] h0 Q) =
    bif ((Array.mk xs).size : Int) != ((Array.mk ys).size : Int) then Q (Value.bool false) { next := 0, low := 0, blocks := [] }
    else
      C
          [Value.func (Fn.yield 0) { toList := xs } { toList := [] },
            Value.func (Fn.yield 0) { toList := ys } { toList := [] }, Value.int IntKind.i64 ↑(Array.mk xs).size,
            Value.int IntKind.i64 0]
          { next := 0, low := 0, blocks := [] } ∧
        bif r then Q (Value.bool true) { next := 0, low := 0, blocks := [] }
        else Q (Value.bool false) { next := 0, low := 0, blocks := [] } := by kernel_rfl

theorem one22 : (loopAt (codeOf Tryz.f22) 4).length = 1 := by kernel_rfl
theorem some22 : Tryz.f22.body.isSome = true := by kernel_rfl
theorem equal_fn (xs ys : List Value) (hx : xs.all isStr = true) (hy : ys.all isStr = true) (h : xs.length ≤ 4000) :
    FnOK 0 Tryz.prog 22 ⟨[fz ⟨xs⟩, fz ⟨ys⟩]⟩ h0 (fun v _ => v = .bool (eqS xs ys)) := by
  by_cases hl : xs.length = ys.length
  · have hC : LSpec 0 Tryz.prog 26 (oneLoop (codeOf Tryz.f22) 4) (hookLS 0 26 [0, 1, 12, 13] [] [4] (fun vals h K => (vals = [fz ⟨xs⟩, fz ⟨ys⟩, .int .i64 (xs.length : Int), .int .i64 0] ∧ h = h0) ∧ cond (eqS xs ys) (K (.exit 0) [anyV] h0) (K .ret [.bool false] h0))) := by
      refine hook_ok (G := []) (L := noHooks) (f := 100) (sameX := []) SQ_ok mixed (by decide) (loops_none _ _ _ _) ?_
      rintro vals h K ⟨⟨rfl, rfl⟩, hK⟩
      refine ⟨xs.length + 1, ?_⟩
      exact eq_loop (F := iter 0 Tryz.prog SQ [] noHooks 100 26 [0, 1, 12, 13] [] [4] [] (oneLoop (codeOf Tryz.f22) 4)) (K := K) (fun m i => eqo xs ys _ i _ K) hx hy rfl (by omega) (by omega) xs.length 0 (by simp) hK
    refine FnOK.ttree SQ_ok mixed Tryz.func22 some22 (loops_one one22 hC) (eqf xs ys (eqS xs ys) (fun vals h => vals = [fz ⟨xs⟩, fz ⟨ys⟩, .int .i64 (xs.length : Int), .int .i64 0] ∧ h = h0) _) ?_
    refine pick_f (by simp [hl]) ⟨⟨rfl, rfl⟩, ?_⟩
    cases eqS xs ys <;> rfl
  · have hC : LSpec 0 Tryz.prog 26 (oneLoop (codeOf Tryz.f22) 4) (hookLS 0 26 [0, 1, 12, 13] [] [4] (fun vals h K => False ∧ cond true (K (.exit 0) [anyV] h0) (K .ret [.bool false] h0))) := by
      refine hook_ok (G := []) (L := noHooks) (S := SQ) (f := 100) (sameX := []) SQ_ok mixed (by decide) (loops_none _ _ _ _) ?_
      rintro vals h K ⟨h1, _⟩
      exact h1.elim
    refine FnOK.ttree SQ_ok mixed Tryz.func22 some22 (loops_one one22 hC) (eqf xs ys true (fun vals h => False) _) ?_
    refine pick_t (by simp; omega) ?_
    have : ∀ (l r : List Value), l.length ≠ r.length → eqS l r = false := by
      intro l
      induction l with
      | nil => intro r hr; cases r with
        | nil => exact (hr rfl).elim
        | cons b r => rfl
      | cons a l ih => intro r hr; cases r with
        | nil => rfl
        | cons b r => simp only [eqS, ih r (by simpa using hr), Bool.and_false]
    rw [this xs ys hl]

def spEq (f : FuncId) (args : Array Value) (h : AH) : Option (Bool × Value × AH) :=
  cond (Nat.beq f 22) (match args with
    | ⟨[.func (.yield 0) ⟨xs⟩ ⟨[]⟩, .func (.yield 0) ⟨ys⟩ ⟨[]⟩]⟩ => some (xs.all isStr && ys.all isStr && Nat.ble xs.length 4000, .bool (eqS xs ys), h)
    | _ => none) none
theorem spEq_ok : SpOK spEq := by
  intro f args h v h' hs
  unfold spEq at hs
  obtain ⟨hf, hs2⟩ := cond_some hs
  clear hs
  have hs := hs2
  clear hs2
  have := Nat.eq_of_beq_eq_true hf
  subst this
  split at hs
  · rename_i xs ys
    injection hs with hs
    injection hs with hb hs
    injection hs with hv hh
    subst hv hh
    simp only [Bool.and_eq_true, Nat.ble_eq] at hb
    exact ⟨FnOK.pure (equal_fn xs ys hb.1.1 hb.1.2 hb.2) rfl rfl h, Nat.le_refl _⟩
  · cases hs

section
variable {F : Nat → List Value → AH → (AExit → List Value → AH → Prop) → Prop} {K : AExit → List Value → AH → Prop} {k : ByteArray} {w sum n48 i49 n : Int} {az xs ys : List Value}
theorem cn_loop
    (hF : ∀ (m : Nat) (c i : Int), F (m + 1) [.int .i64 sum, fz ⟨az⟩, .pointer (some ⟨0, 0, none⟩), .int .i64 c, fz ⟨xs⟩, .int .i64 n48, .int .i64 i49, fz ⟨ys⟩, .int .i64 n, .int .i64 i] ⟨1, 1, [(0, .cells ⟨[.string k, .int .i64 w]⟩ 71)]⟩ K =
    bif decide (i < n) then
      bif decide (0 ≤ i) && decide (i < ↑(Array.mk ys).size) && true then
        (Array.mk ys).toList.getD i.toNat (Value.tuple { toList := [] }) =
            Value.string (toStr ((Array.mk ys).toList.getD i.toNat (Value.tuple { toList := [] }))) ∧
          bif (toStr ((Array.mk ys).toList.getD i.toNat (Value.tuple { toList := [] }))).toList == k.toList then
            (fun v g => F m v g K)
              [Value.int IntKind.i64 sum, Value.func (Fn.yield 0) { toList := az } { toList := [] },
                Value.pointer (some { block := 0, off := 0 }), Value.int IntKind.i64 (IntKind.i64.wrap (c + 1)),
                Value.func (Fn.yield 0) { toList := xs } { toList := [] }, Value.int IntKind.i64 n48,
                Value.int IntKind.i64 i49, Value.func (Fn.yield 0) { toList := ys } { toList := [] },
                Value.int IntKind.i64 n, Value.int IntKind.i64 (IntKind.i64.wrap (i + 1))]
              { next := 1, low := 1,
                blocks := [(0, Obj.cells { toList := [Value.string k, Value.int IntKind.i64 w] } 71 (0, 0))] }
          else
            (fun v g => F m v g K)
              [Value.int IntKind.i64 sum, Value.func (Fn.yield 0) { toList := az } { toList := [] },
                Value.pointer (some { block := 0, off := 0 }), Value.int IntKind.i64 c,
                Value.func (Fn.yield 0) { toList := xs } { toList := [] }, Value.int IntKind.i64 n48,
                Value.int IntKind.i64 i49, Value.func (Fn.yield 0) { toList := ys } { toList := [] },
                Value.int IntKind.i64 n, Value.int IntKind.i64 (IntKind.i64.wrap (i + 1))]
              { next := 1, low := 1,
                blocks := [(0, Obj.cells { toList := [Value.string k, Value.int IntKind.i64 w] } 71 (0, 0))] }
      else False
    else
      K (AExit.exit 4)
        [Value.int IntKind.i64 sum, Value.func (Fn.yield 0) { toList := az } { toList := [] },
          Value.pointer (some { block := 0, off := 0 }), Value.int IntKind.i64 c,
          Value.func (Fn.yield 0) { toList := xs } { toList := [] }, Value.int IntKind.i64 n48, Value.int IntKind.i64 i49]
        { next := 1, low := 1,
          blocks := [(0, Obj.cells { toList := [Value.string k, Value.int IntKind.i64 w] } 71 (0, 0))] })
    (hy : ys.all isStr = true) (h2 : (ys.length : Int) = n) (h3 : n ≤ 4000) :
    ∀ (r i : Nat) (c : Int), (i : Int) + r = n → 0 ≤ c → c ≤ i →
      K (.exit 4) [.int .i64 sum, fz ⟨az⟩, .pointer (some ⟨0, 0, none⟩), .int .i64 (c + cntS k (ys.drop i)), fz ⟨xs⟩, .int .i64 n48, .int .i64 i49] ⟨1, 1, [(0, .cells ⟨[.string k, .int .i64 w]⟩ 71)]⟩ →
      F (r + 1) [.int .i64 sum, fz ⟨az⟩, .pointer (some ⟨0, 0, none⟩), .int .i64 c, fz ⟨xs⟩, .int .i64 n48, .int .i64 i49, fz ⟨ys⟩, .int .i64 n, .int .i64 i] ⟨1, 1, [(0, .cells ⟨[.string k, .int .i64 w]⟩ 71)]⟩ K := by
  intro r
  induction r with
  | zero =>
    intro i c h4 h5 h6 h7
    rw [hF]
    refine pick_f (by simp; omega) ?_
    rw [List.drop_eq_nil_of_le (by omega)] at h7
    have e : c + cntS k [] = c := by simp [cntS]
    rw [e] at h7
    exact h7
  | succ r ih =>
    intro i c h4 h5 h6 h7
    rw [hF]
    have i2 : i < ys.length := by omega
    have e2 := str_get hy i2
    rw [drop_cons i2] at h7
    simp only [cntS] at h7
    refine pick_t (by simp; omega) (need_mk (by simp; omega) ⟨by simpa using e2, ?_⟩)
    rw [Int.toNat_natCast]
    cases hb : ((toStr (ys.getD i (Value.tuple { toList := [] }))).toList == k.toList) with
    | true =>
      rw [hb] at h7
      refine pick_t rfl ?_
      rw [wrap_id (c + 1) (by omega) (by omega), wrap_id _ (by omega) (by omega)]
      refine ih (i + 1) (c + 1) (by omega) (by omega) (by omega) ?_
      rw [show c + 1 + cntS k (ys.drop (i + 1)) = c + (cntS k (ys.drop (i + 1)) + 1) by omega]
      exact h7
    | false =>
      rw [hb] at h7
      refine pick_f rfl ?_
      rw [wrap_id _ (by omega) (by omega)]
      exact ih (i + 1) c (by omega) (by omega) (by omega) h7
end
theorem cno (k : ByteArray) (w sum c n48 i49 n i : Int) (az xs ys : List Value) (B : List Value → AH → Prop) (Q : AExit → List Value → AH → Prop) : (once 0 Tryz.prog SQ [] noHooks 100 83 [5, 8, 11, 12, 47, 48, 49, 55, 56, 57] [] [5, 8, 11, 12, 47, 48, 49] [] (oneLoop (oneLoop (codeOf Tryz.f5) 13) 17) [.int .i64 sum, fz ⟨az⟩, .pointer (some ⟨0, 0, none⟩), .int .i64 c, fz ⟨xs⟩, .int .i64 n48, .int .i64 i49, fz ⟨ys⟩, .int .i64 n, .int .i64 i] ⟨1, 1, [(0, .cells ⟨[.string k, .int .i64 w]⟩ 71)]⟩ B Q) =
    bif decide (i < n) then
      bif decide (0 ≤ i) && decide (i < ↑(Array.mk ys).size) && true then
        (Array.mk ys).toList.getD i.toNat (Value.tuple { toList := [] }) =
            Value.string (toStr ((Array.mk ys).toList.getD i.toNat (Value.tuple { toList := [] }))) ∧
          bif (toStr ((Array.mk ys).toList.getD i.toNat (Value.tuple { toList := [] }))).toList == k.toList then
            B
              [Value.int IntKind.i64 sum, Value.func (Fn.yield 0) { toList := az } { toList := [] },
                Value.pointer (some { block := 0, off := 0 }), Value.int IntKind.i64 (IntKind.i64.wrap (c + 1)),
                Value.func (Fn.yield 0) { toList := xs } { toList := [] }, Value.int IntKind.i64 n48,
                Value.int IntKind.i64 i49, Value.func (Fn.yield 0) { toList := ys } { toList := [] },
                Value.int IntKind.i64 n, Value.int IntKind.i64 (IntKind.i64.wrap (i + 1))]
              { next := 1, low := 1,
                blocks := [(0, Obj.cells { toList := [Value.string k, Value.int IntKind.i64 w] } 71 (0, 0))] }
          else
            B
              [Value.int IntKind.i64 sum, Value.func (Fn.yield 0) { toList := az } { toList := [] },
                Value.pointer (some { block := 0, off := 0 }), Value.int IntKind.i64 c,
                Value.func (Fn.yield 0) { toList := xs } { toList := [] }, Value.int IntKind.i64 n48,
                Value.int IntKind.i64 i49, Value.func (Fn.yield 0) { toList := ys } { toList := [] },
                Value.int IntKind.i64 n, Value.int IntKind.i64 (IntKind.i64.wrap (i + 1))]
              { next := 1, low := 1,
                blocks := [(0, Obj.cells { toList := [Value.string k, Value.int IntKind.i64 w] } 71 (0, 0))] }
      else False
    else
      Q (AExit.exit 4)
        [Value.int IntKind.i64 sum, Value.func (Fn.yield 0) { toList := az } { toList := [] },
          Value.pointer (some { block := 0, off := 0 }), Value.int IntKind.i64 c,
          Value.func (Fn.yield 0) { toList := xs } { toList := [] }, Value.int IntKind.i64 n48, Value.int IntKind.i64 i49]
        { next := 1, low := 1,
          blocks := [(0, Obj.cells { toList := [Value.string k, Value.int IntKind.i64 w] } 71 (0, 0))] } := by kernel_rfl


/-- The loop that counts, for every state. -/
def closedCn (vals : List Value) (h : AH) (K : AExit → List Value → AH → Prop) : Prop :=
  match vals, h with
  | [.int .i64 sum, .func (.yield 0) ⟨az⟩ ⟨[]⟩, .pointer (some ⟨0, 0, none⟩), .int .i64 c, .func (.yield 0) ⟨xs⟩ ⟨[]⟩, .int .i64 n48, .int .i64 i49, .func (.yield 0) ⟨ys⟩ ⟨[]⟩, .int .i64 n, .int .i64 i], ⟨1, 1, [(0, .cells ⟨[.string k, .int .i64 w]⟩ 71 (0, 0))]⟩ =>
    cond (ys.all isStr && decide (n = (ys.length : Int)) && decide (i = 0) && decide (c = 0) && Nat.ble ys.length 4000)
      (K (.exit 4) [.int .i64 sum, fz ⟨az⟩, .pointer (some ⟨0, 0, none⟩), .int .i64 (cntS k ys), fz ⟨xs⟩, .int .i64 n48, .int .i64 i49] ⟨1, 1, [(0, .cells ⟨[.string k, .int .i64 w]⟩ 71 (0, 0))]⟩) False
  | _, _ => False

theorem closedCn_ok (vals : List Value) (h : AH) (K : AExit → List Value → AH → Prop) (hc : closedCn vals h K) :
    ∃ m, iter 0 Tryz.prog SQ [] noHooks 100 83 [5, 8, 11, 12, 47, 48, 49, 55, 56, 57] [] [5, 8, 11, 12, 47, 48, 49] [] (oneLoop (oneLoop (codeOf Tryz.f5) 13) 17) m vals h K := by
  unfold closedCn at hc
  split at hc
  · rename_i sum az c xs n48 i49 ys n i k w
    obtain ⟨hb, hK⟩ := cond_need hc
    simp only [Bool.and_eq_true, decide_eq_true_eq, Nat.ble_eq] at hb
    obtain ⟨⟨⟨⟨b1, b2⟩, b3⟩, b4⟩, b5⟩ := hb
    subst b2 b3 b4
    refine ⟨ys.length + 1, ?_⟩
    refine cn_loop (F := iter 0 Tryz.prog SQ [] noHooks 100 83 [5, 8, 11, 12, 47, 48, 49, 55, 56, 57] [] [5, 8, 11, 12, 47, 48, 49] [] (oneLoop (oneLoop (codeOf Tryz.f5) 13) 17)) (K := K) (fun m c i => cno k w sum c n48 i49 _ i az xs ys _ K) b1 rfl (by omega) ys.length 0 0 (by simp) (by omega) (by omega) ?_
    rw [List.drop_zero, Int.zero_add]
    exact hK
  · exact hc.elim
end Go.Proofs.YtddhljigbchemaaGreatDoor
