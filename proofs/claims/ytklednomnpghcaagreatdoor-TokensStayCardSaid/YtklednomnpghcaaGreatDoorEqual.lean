/-
  'slices.Equal' for strings as a specification.
-/
import Derived.Test.YtklednomnpghcaaGreatDoorBase
namespace Go.Proofs.YtklednomnpghcaaGreatDoor
open Go.Ev Go.RowKit

def SQ : SC := ⟨idn, fun _ _ _ => none, true, false⟩
theorem SQ_ok : SQ.cfg.OK Tryz.prog := none_ok.cfg
def eqS : List Value → List Value → Bool
  | [], [] => true
  | a :: l, b :: r => ((toStr a).toList == (toStr b).toList) && eqS l r
  | _, _ => false
theorem eqS_self : ∀ l : List Value, eqS l l = true
  | [] => rfl
  | a :: l => by simp [eqS, eqS_self l]
theorem eq_loop {F : Nat → List Value → AH → (AExit → List Value → AH → Prop) → Prop} {K : AExit → List Value → AH → Prop} {xs ys : List Value} {n : Int}
    (hF : ∀ (m : Nat) (i : Int), F (m + 1) [fz ⟨xs⟩, fz ⟨ys⟩, .int .i64 n, .int .i64 i] h0 K =
    bif decide (i < n) then
      bif decide (0 ≤ i) && decide (i < ((Array.mk xs).size : Int)) && true then
        (Array.mk xs).toList.getD i.toNat (Value.tuple { toList := [] }) =
            Value.string (toStr ((Array.mk xs).toList.getD i.toNat (Value.tuple { toList := [] }))) ∧
          bif decide (0 ≤ i) && decide (i < ((Array.mk ys).size : Int)) && true then
            (Array.mk ys).toList.getD i.toNat (Value.tuple { toList := [] }) =
                Value.string (toStr ((Array.mk ys).toList.getD i.toNat (Value.tuple { toList := [] }))) ∧
              bif
                  !(toStr ((Array.mk xs).toList.getD i.toNat (Value.tuple { toList := [] }))).toList ==
                      (toStr ((Array.mk ys).toList.getD i.toNat (Value.tuple { toList := [] }))).toList then
                K AExit.ret [Value.bool false] { next := 0, low := 0, blocks := [] }
              else
                (fun v g => F m v g K)
                  [Value.func (Fn.yield 0) { toList := xs } { toList := [] },
                    Value.func (Fn.yield 0) { toList := ys } { toList := [] }, Value.int IntKind.i64 n,
                    Value.int IntKind.i64 (IntKind.i64.wrap (i + 1))]
                  { next := 0, low := 0, blocks := [] }
          else False
      else False
    else K (AExit.exit 0) [Value.func (Fn.yield 2) { toList := [] } { toList := [] }] { next := 0, low := 0, blocks := [] })
    (hx : xs.all isStr = true) (hy : ys.all isStr = true) (h1 : (xs.length : Int) = n) (h2 : (ys.length : Int) = n) (h3 : n ≤ 4000) :
    ∀ (r i : Nat), (i : Int) + r = n → cond (eqS (xs.drop i) (ys.drop i)) (K (.exit 0) [anyV] h0) (K .ret [.bool false] h0) → F (r + 1) [fz ⟨xs⟩, fz ⟨ys⟩, .int .i64 n, .int .i64 i] h0 K := by
  intro r
  induction r with
  | zero =>
    intro i h4 h5
    rw [hF]
    refine pick_f (by simp; omega) ?_
    rw [List.drop_eq_nil_of_le (by omega), List.drop_eq_nil_of_le (by omega)] at h5
    exact h5
  | succ r ih =>
    intro i h4 h5
    rw [hF]
    have i1 : i < xs.length := by omega
    have i2 : i < ys.length := by omega
    have e1 := str_get hx i1
    have e2 := str_get hy i2
    rw [drop_cons i1, drop_cons i2] at h5
    simp only [eqS] at h5
    refine pick_t (by simp; omega) (need_mk (by simp; omega) ⟨by simpa using e1, need_mk (by simp; omega) ⟨by simpa using e2, ?_⟩⟩)
    rw [Int.toNat_natCast]
    cases hb : ((toStr (xs.getD i (Value.tuple { toList := [] }))).toList == (toStr (ys.getD i (Value.tuple { toList := [] }))).toList) with
    | true =>
      rw [hb] at h5
      refine pick_f rfl ?_
      rw [wrap_id _ (by omega) (by omega)]
      exact ih (i + 1) (by omega) (by simpa using h5)
    | false =>
      rw [hb] at h5
      refine pick_t rfl ?_
      exact h5

theorem eqo (xs ys : List Value) (n i : Int) (B : List Value → AH → Prop) (Q : AExit → List Value → AH → Prop) : (once 0 Tryz.prog SQ [] noHooks 100 26 [0, 1, 12, 13] [] [4] [] (oneLoop (codeOf Tryz.f18) 4) [fz ⟨xs⟩, fz ⟨ys⟩, .int .i64 n, .int .i64 i] h0 B Q) =
    bif decide (i < n) then
      bif decide (0 ≤ i) && decide (i < ((Array.mk xs).size : Int)) && true then
        (Array.mk xs).toList.getD i.toNat (Value.tuple { toList := [] }) =
            Value.string (toStr ((Array.mk xs).toList.getD i.toNat (Value.tuple { toList := [] }))) ∧
          bif decide (0 ≤ i) && decide (i < ((Array.mk ys).size : Int)) && true then
            (Array.mk ys).toList.getD i.toNat (Value.tuple { toList := [] }) =
                Value.string (toStr ((Array.mk ys).toList.getD i.toNat (Value.tuple { toList := [] }))) ∧
              bif
                  !(toStr ((Array.mk xs).toList.getD i.toNat (Value.tuple { toList := [] }))).toList ==
                      (toStr ((Array.mk ys).toList.getD i.toNat (Value.tuple { toList := [] }))).toList then
                Q AExit.ret [Value.bool false] { next := 0, low := 0, blocks := [] }
              else
                B
                  [Value.func (Fn.yield 0) { toList := xs } { toList := [] },
                    Value.func (Fn.yield 0) { toList := ys } { toList := [] }, Value.int IntKind.i64 n,
                    Value.int IntKind.i64 (IntKind.i64.wrap (i + 1))]
                  { next := 0, low := 0, blocks := [] }
          else False
      else False
    else Q (AExit.exit 0) [Value.func (Fn.yield 2) { toList := [] } { toList := [] }] { next := 0, low := 0, blocks := [] } := by kernel_rfl
theorem eqf (xs ys : List Value) (r : Bool) (C : List Value → AH → Prop) (Q : Value → AH → Prop) : (tfn Tryz.prog SQ [] (hook1 4 (hookLS 0 26 [0, 1, 12, 13] [] [4] (fun vals h K => C vals h ∧ cond r (K (.exit 0) [anyV] h0) (K .ret [.bool false] h0)))) 200 [] Tryz.f18 [fz ⟨xs⟩, fz ⟨ys⟩] h0 Q) =
    bif ((Array.mk xs).size : Int) != ((Array.mk ys).size : Int) then Q (Value.bool false) { next := 0, low := 0, blocks := [] }
    else
      C
          [Value.func (Fn.yield 0) { toList := xs } { toList := [] },
            Value.func (Fn.yield 0) { toList := ys } { toList := [] }, Value.int IntKind.i64 ((Array.mk xs).size : Int),
            Value.int IntKind.i64 0]
          { next := 0, low := 0, blocks := [] } ∧
        bif r then Q (Value.bool true) { next := 0, low := 0, blocks := [] }
        else Q (Value.bool false) { next := 0, low := 0, blocks := [] } := by kernel_rfl

theorem one18 : (loopAt (codeOf Tryz.f18) 4).length = 1 := by kernel_rfl
theorem some18 : Tryz.f18.body.isSome = true := by kernel_rfl
theorem equal_fn (xs ys : List Value) (hx : xs.all isStr = true) (hy : ys.all isStr = true) (h : xs.length ≤ 4000) :
    FnOK 0 Tryz.prog 18 ⟨[fz ⟨xs⟩, fz ⟨ys⟩]⟩ h0 (fun v _ => v = .bool (eqS xs ys)) := by
  by_cases hl : xs.length = ys.length
  · have hC : LSpec 0 Tryz.prog 26 (oneLoop (codeOf Tryz.f18) 4) (hookLS 0 26 [0, 1, 12, 13] [] [4] (fun vals h K => (vals = [fz ⟨xs⟩, fz ⟨ys⟩, .int .i64 (xs.length : Int), .int .i64 0] ∧ h = h0) ∧ cond (eqS xs ys) (K (.exit 0) [anyV] h0) (K .ret [.bool false] h0))) := by
      refine hook_ok (G := []) (L := noHooks) (f := 100) (sameX := []) SQ_ok mixed (by decide) (loops_none _ _ _ _) ?_
      rintro vals h K ⟨⟨rfl, rfl⟩, hK⟩
      refine ⟨xs.length + 1, ?_⟩
      exact eq_loop (F := iter 0 Tryz.prog SQ [] noHooks 100 26 [0, 1, 12, 13] [] [4] [] (oneLoop (codeOf Tryz.f18) 4)) (K := K) (fun m i => eqo xs ys _ i _ K) hx hy rfl (by omega) (by omega) xs.length 0 (by simp) hK
    refine FnOK.ttree SQ_ok mixed Tryz.func18 some18 (loops_one one18 hC) (eqf xs ys (eqS xs ys) (fun vals h => vals = [fz ⟨xs⟩, fz ⟨ys⟩, .int .i64 (xs.length : Int), .int .i64 0] ∧ h = h0) _) ?_
    refine pick_f (by simp [hl]) ⟨⟨rfl, rfl⟩, ?_⟩
    cases eqS xs ys <;> rfl
  · have hC : LSpec 0 Tryz.prog 26 (oneLoop (codeOf Tryz.f18) 4) (hookLS 0 26 [0, 1, 12, 13] [] [4] (fun vals h K => False ∧ cond true (K (.exit 0) [anyV] h0) (K .ret [.bool false] h0))) := by
      refine hook_ok (G := []) (L := noHooks) (S := SQ) (f := 100) (sameX := []) SQ_ok mixed (by decide) (loops_none _ _ _ _) ?_
      rintro vals h K ⟨h1, _⟩
      exact h1.elim
    refine FnOK.ttree SQ_ok mixed Tryz.func18 some18 (loops_one one18 hC) (eqf xs ys true (fun vals h => False) _) ?_
    refine pick_t (by simp; omega) ?_
    have : ∀ (l r : List Value), l.length ≠ r.length → eqS l r = false := by
      intro l
      induction l with
      | nil => intro r hr; cases r with
        | nil => exact (hr rfl).elim
        | cons b r => rfl
      | cons a l ih => intro r hr; cases r with
        | nil => rfl
        | cons b r => simp only [eqS, ih r (by simpa using hr), Bool.and_false]
    rw [this xs ys hl]

def spEq (f : FuncId) (args : Array Value) (h : AH) : Option (Bool × Value × AH) :=
  cond (Nat.beq f 18) (match args with
    | ⟨[.func (.yield 0) ⟨xs⟩ ⟨[]⟩, .func (.yield 0) ⟨ys⟩ ⟨[]⟩]⟩ => some (xs.all isStr && ys.all isStr && Nat.ble xs.length 4000, .bool (eqS xs ys), h)
    | _ => none) none
theorem spEq_ok : SpOK spEq := by
  intro f args h v h' hs
  unfold spEq at hs
  obtain ⟨hf, hs2⟩ := cond_some hs
  clear hs
  have hs := hs2
  clear hs2
  have := Nat.eq_of_beq_eq_true hf
  subst this
  split at hs
  · rename_i xs ys
    injection hs with hs
    injection hs with hb hs
    injection hs with hv hh
    subst hv hh
    simp only [Bool.and_eq_true, Nat.ble_eq] at hb
    exact ⟨FnOK.pure (equal_fn xs ys hb.1.1 hb.1.2 hb.2) rfl rfl h, Nat.le_refl _⟩
  · cases hs

end Go.Proofs.YtklednomnpghcaaGreatDoor
