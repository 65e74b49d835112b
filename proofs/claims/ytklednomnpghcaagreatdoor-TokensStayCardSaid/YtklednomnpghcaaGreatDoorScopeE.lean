/-
  'coverAll' and 'Covers' as specifications.
-/
import Derived.Test.YtklednomnpghcaaGreatDoorScopeD
namespace Go.Proofs.YtklednomnpghcaaGreatDoor
open Go.Ev Go.RowKit ScopeLaw

def SE1 : SC := ⟨idn, spCb, true, true⟩
def hbl (hs : List Value) : AH := ⟨1, 1, [(0, .cells ⟨[fz ⟨hs⟩]⟩ 26 (0, 0))]⟩
def fA : Value := .func (.func 81) ⟨[]⟩ ⟨[.pointer (some ⟨0, 0, none⟩)]⟩
theorem SE1_ok : SE1.cfg.OK Tryz.prog := spCb_ok.cfg
theorem ixA (vs hs : List Value) (n i : Int) (B : List Value → AH → Prop) (Q : AExit → List Value → AH → Prop) : (once 1 Tryz.prog SE1 [] noHooks 100 19 [0, 1, 7, 8] [] [4] [] (oneLoop (codeOf Tryz.f112) 2) [fz ⟨vs⟩, fA, .int .i64 n, .int .i64 i] (hbl hs) B Q) = bif decide (i < n) then bif decide (0 ≤ i) && decide (i < ((Array.mk vs).size : Int)) && true then (Array.mk vs).toList.getD i.toNat (Value.tuple { toList := [] }) = Value.string (toStr ((Array.mk vs).toList.getD i.toNat (Value.tuple { toList := [] }))) ∧ bif tenR hs && inTen (toStr ((Array.mk vs).toList.getD i.toNat (Value.tuple { toList := [] }))) then bif !anyV1 (gB (toStr ((Array.mk vs).toList.getD i.toNat (Value.tuple { toList := [] })))) hs then Q AExit.ret [Value.int IntKind.i64 i] { next := 1, low := 1, blocks := [(0, Obj.cells { toList := [Value.func (Fn.yield 0) { toList := hs } { toList := [] }] } 26 (0, 0))] } else B [Value.func (Fn.yield 0) { toList := vs } { toList := [] }, Value.func (Fn.func 81) { toList := [] } { toList := [Value.pointer (some { block := 0, off := 0 })] }, Value.int IntKind.i64 n, Value.int IntKind.i64 (IntKind.i64.wrap (i + 1))] { next := 1, low := 1, blocks := [(0, Obj.cells { toList := [Value.func (Fn.yield 0) { toList := hs } { toList := [] }] } 26 (0, 0))] } else False else False else Q (AExit.exit 0) [Value.func (Fn.yield 2) { toList := [] } { toList := [] }] { next := 1, low := 1, blocks := [(0, Obj.cells { toList := [Value.func (Fn.yield 0) { toList := hs } { toList := [] }] } 26 (0, 0))] } := by kernel_rfl
theorem ixAf (vs hs : List Value) (b : Bool) (r : Int) (C : List Value → AH → Prop) (Q : Value → Option Obj → Prop) : (tfn Tryz.prog SE1 [] (hook1 2 (hookLS 1 19 [0, 1, 7, 8] [] [4] (fun vals h K => C vals h ∧ cond b (K .ret [.int .i64 r] (hbl hs)) (K (.exit 0) [anyV] (hbl hs))))) 200 [] Tryz.f112 [fz ⟨vs⟩, fA] (hbl hs) (fun v h => Q v (h.get 0))) = (C [Value.func (Fn.yield 0) { toList := vs } { toList := [] }, Value.func (Fn.func 81) { toList := [] } { toList := [Value.pointer (some { block := 0, off := 0 })] }, Value.int IntKind.i64 ((Array.mk vs).size : Int), Value.int IntKind.i64 0] { next := 1, low := 1, blocks := [(0, Obj.cells { toList := [Value.func (Fn.yield 0) { toList := hs } { toList := [] }] } 26 (0, 0))] } ∧ bif b then Q (Value.int IntKind.i64 r) (some (Obj.cells { toList := [Value.func (Fn.yield 0) { toList := hs } { toList := [] }] } 26 (0, 0))) else Q (Value.int IntKind.i64 (-1)) (some (Obj.cells { toList := [Value.func (Fn.yield 0) { toList := hs } { toList := [] }] } 26 (0, 0)))) := by kernel_rfl

/-- Not covered. -/
def gA (hs : List Value) (x : ByteArray) : Bool := !anyV1 (gB x) hs
theorem ix_fnA {vs : List Value} (hv : tenR vs = true) {hs : List Value} (hh : tenR hs = true) : FnOK 1 Tryz.prog 112 ⟨[fz ⟨vs⟩, fA]⟩ (hbl hs) (fun v g => v = .int .i64 (idxP (gA hs) vs 0) ∧ g.get 0 = some (.cells ⟨[fz ⟨hs⟩]⟩ 26 (0, 0))) := by
  have hlen := ten_len hv
  have hC : LSpec 1 Tryz.prog 19 (oneLoop (codeOf Tryz.f112) 2) (hookLS 1 19 [0, 1, 7, 8] [] [4] (fun vals h K => (vals = [fz ⟨vs⟩, fA, .int .i64 (vs.length : Int), .int .i64 0] ∧ h = hbl hs) ∧ cond (decide (idxP (gA hs) vs 0 ≥ 0)) (K .ret [.int .i64 (idxP (gA hs) vs 0)] (hbl hs)) (K (.exit 0) [anyV] (hbl hs)))) := by
    refine hook_ok (G := []) (L := noHooks) (f := 100) (sameX := []) SE1_ok mixed (by decide) (loops_none _ _ _ _) ?_
    rintro vals h K ⟨⟨rfl, rfl⟩, hK⟩
    refine ⟨vs.length + 1, ?_⟩
    exact ix_loop (gA hs) (F := iter 1 Tryz.prog SE1 [] noHooks 100 19 [0, 1, 7, 8] [] [4] [] (oneLoop (codeOf Tryz.f112) 2)) (K := K)
      (fun m hK => (ixA vs hs _ _ _ K).mpr (pick_f (by simp) hK))
      (fun m i hi hg hK => (ixA vs hs _ _ _ K).mpr (pick_t (by simp; omega) (need_mk (in_v hi) ⟨(ten_at hv hi).2, need_mk (by rw [Bool.and_eq_true]; exact ⟨hh, (ten_at hv hi).1⟩) (pick_t hg hK)⟩)))
      (fun m i hi hg hK => (ixA vs hs _ _ _ K).mpr (pick_t (by simp; omega) (need_mk (in_v hi) ⟨(ten_at hv hi).2, need_mk (by rw [Bool.and_eq_true]; exact ⟨hh, (ten_at hv hi).1⟩) (pick_f hg (by
        rw [show IntKind.i64.wrap ((i : Int) + 1) = ((i + 1 : Nat) : Int) by rw [wrap_id _ (by omega) (by omega)]; rfl]
        exact hK))⟩)))
      rfl vs.length 0 (by simp) hK
  refine FnOK.ttree SE1_ok mixed Tryz.func112 some112 (loops_one one112 hC) (ixAf vs hs _ _ (fun vals h => vals = [fz ⟨vs⟩, fA, .int .i64 (vs.length : Int), .int .i64 0] ∧ h = hbl hs) (fun v o => v = .int .i64 (idxP (gA hs) vs 0) ∧ o = some (.cells ⟨[fz ⟨hs⟩]⟩ 26 (0, 0)))) ?_
  refine ⟨⟨rfl, rfl⟩, ?_⟩
  have hm1 : decide (idxP (gA hs) vs 0 ≥ 0) = false → idxP (gA hs) vs 0 = -1 := idxP_none (gA hs) vs 0 (Int.le_refl 0)
  cases hd : decide (idxP (gA hs) vs 0 ≥ 0) with
  | true => exact ⟨rfl, rfl⟩
  | false => exact ⟨by rw [hm1 hd], rfl⟩
def spIxA (f : FuncId) (args : Array Value) (h : AH) : Option (Bool × Value × AH) :=
  cond (Nat.beq f 112) (match args with
    | ⟨[.func (.yield 0) ⟨vs⟩ ⟨[]⟩, .func (.func k) ⟨[]⟩ ⟨[.pointer (some ⟨b, 0, none⟩)]⟩]⟩ => match h.get b with
      | some (.cells ⟨[.func (.yield 0) ⟨hs⟩ ⟨[]⟩]⟩ t (0, 0)) => cond (Nat.beq k 81) (some (tenR vs && tenR hs && Nat.beq t 26, .int .i64 (idxP (gA hs) vs 0), h)) none
      | _ => none
    | _ => none) none
theorem spIxA_ok : SpOK spIxA := by
  intro f args h v h' hs
  unfold spIxA at hs
  obtain ⟨hf, hs2⟩ := cond_some hs
  clear hs
  have := Nat.eq_of_beq_eq_true hf
  subst this
  split at hs2
  · split at hs2
    · rename_i s t hg
      obtain ⟨hk, hs⟩ := cond_some hs2
      have := Nat.eq_of_beq_eq_true hk
      subst this
      injection hs with hs
      injection hs with hb hs
      injection hs with hv hh
      subst hv hh
      rw [Bool.and_eq_true, Bool.and_eq_true] at hb
      have := Nat.eq_of_beq_eq_true hb.2
      subst this
      exact ⟨box_call hg rfl rfl (ix_fnA hb.1.1 hb.1.2), Nat.le_refl _⟩
    · cases hs2
  · cases hs2
/-- Whether all of the second list are covered by the first. -/
def allV (hs vs : List Value) : Bool := vs.all fun v => anyV1 (gB (toStr v)) hs
theorem allV_any (hs vs : List Value) : (!anyV1 (gA hs) vs) = allV hs vs := by
  induction vs with
  | nil => rfl
  | cons v l ih =>
    simp only [anyV1, allV, gA, List.any_cons, List.all_cons, Bool.not_or, Bool.not_not] at ih ⊢
    rw [ih]
def SE2 : SC := ⟨idn, spIxA, true, true⟩
theorem SE2_ok : SE2.cfg.OK Tryz.prog := spIxA_ok.cfg
theorem some40 : Tryz.f40.body.isSome = true := by kernel_rfl
theorem caf (hs vs : List Value) (Q : Value → Prop) : ffn Tryz.prog SE2 [] 1000 [] Tryz.f40 [fz ⟨hs⟩, fz ⟨vs⟩] h0 (fun v _ => Q v) =
    cond (tenR vs && tenR hs && true) (Q (.bool (!decide (idxP (gA hs) vs 0 ≥ 0)))) False := by kernel_rfl
theorem ca_fn {vs hs : List Value} (hv : tenR vs = true) (hh : tenR hs = true) : FnOK 0 Tryz.prog 40 ⟨[fz ⟨hs⟩, fz ⟨vs⟩]⟩ h0 (fun v _ => v = .bool (allV hs vs)) := by
  refine FnOK.ftree SE2_ok mixed Tryz.func40 some40 (caf hs vs (fun v => v = .bool (allV hs vs))) (need_mk (by rw [hv, hh]; rfl) ?_)
  rw [idxP_any _ _ _ (Int.le_refl 0), allV_any]
def spCa (f : FuncId) (args : Array Value) (h : AH) : Option (Bool × Value × AH) :=
  cond (Nat.beq f 40) (match args with
    | ⟨[.func (.yield 0) ⟨hs⟩ ⟨[]⟩, .func (.yield 0) ⟨vs⟩ ⟨[]⟩]⟩ => some (tenR vs && tenR hs, .bool (allV hs vs), h)
    | _ => none) none
theorem spCa_ok : SpOK spCa := by
  intro f args h v h' hs
  unfold spCa at hs
  obtain ⟨hf, hs2⟩ := cond_some hs
  clear hs
  have := Nat.eq_of_beq_eq_true hf
  subst this
  split at hs2
  · injection hs2 with hs
    injection hs with hb hs
    injection hs with hv hh
    subst hv hh
    rw [Bool.and_eq_true] at hb
    exact ⟨FnOK.pure (ca_fn hb.1 hb.2) rfl rfl h, Nat.le_refl _⟩
  · cases hs2
end Go.Proofs.YtklednomnpghcaaGreatDoor
