/-
  Limits: what the law takes as told.
-/
import Derived.Test.YtbigicdojndnjaaGreatDoorLkF
import Derived.Test.YtbigicdojndnjaaGreatDoorLkR
namespace Go.Proofs.YtbigicdojndnjaaGreatDoor
open Go.Ev Go.RowKit LimLaw

noncomputable def spLr (zs : List Int) (c m p q d : Int) (f : FuncId) (args : Array Value) (h : AH) : Option (Bool × Value × AH) :=
  cond (Nat.beq f 15) (match args with
    | ⟨[.pointer (some ⟨b, 0, none⟩), .string k]⟩ => match h.get b with
      | some (.cells ⟨[x, .int .i64 at_]⟩ t (0, 0)) => some (eqV x (fz (intsV zs)) && Nat.beq t 25 && decide (at_ = 0) && eqV (.string k) (.string keyB), lmV keyB c m p q, h.set b (strm (intsV zs) d))
      | _ => none
    | _ => none) none
theorem spLr_ok {zs : List Int} {c m p q d : Int} (hr : ∀ Q : Value → Option Obj → Prop, Q (lmV keyB c m p q) (some (strm (intsV zs) d)) → rlT (intsV zs) 0 keyB Q) : SpOK (spLr zs c m p q d) := by
  intro f args h v h' hs
  unfold spLr at hs
  obtain ⟨hf, hs2⟩ := cond_some hs
  clear hs
  have := Nat.eq_of_beq_eq_true hf
  subst this
  split at hs2
  · rename_i b k
    split at hs2
    · rename_i x at_ t hg
      injection hs2 with hs
      injection hs with hb hs
      injection hs with hv hh
      subst hv hh
      simp only [Bool.and_eq_true, decide_eq_true_eq] at hb
      obtain ⟨⟨⟨b1, b2⟩, rfl⟩, b4⟩ := hb
      have := eqV_eq b1
      subst this
      have b2 := Nat.eq_of_beq_eq_true b2
      subst b2
      have b4 := eqV_eq b4
      injection b4 with b4
      subst b4
      exact ⟨FnOK.ref (cs := ⟨[fz (intsV zs), .int .i64 0]⟩) (cs' := ⟨[fz (intsV zs), .int .i64 d]⟩) (args := [.string keyB]) (rl_fn hr) rfl (by simp [p1, fz]) (by simp [p1, fz]) rfl hg, Nat.le_refl _⟩
    · cases hs2
  · cases hs2
noncomputable def spAt (zs : List Int) (d n d' : Int) (ys : List Value) (f : FuncId) (args : Array Value) (h : AH) : Option (Bool × Value × AH) :=
  cond (Nat.beq f 8) (match args with
    | ⟨[.pointer (some ⟨b, 0, none⟩), .int .i64 k]⟩ => match h.get b with
      | some (.cells ⟨[x, .int .i64 at_]⟩ t (0, 0)) => some (eqV x (fz (intsV zs)) && Nat.beq t 25 && decide (at_ = d) && decide (k = n), fz ⟨ys⟩, h.set b (strm (intsV zs) d'))
      | _ => none
    | _ => none) none
theorem spAt_ok {zs : List Int} {d n d' : Int} {ys : List Value} (hF : FnOK 1 Tryz.prog 8 ⟨[.pointer (some ⟨0, 0, none⟩), .int .i64 n]⟩ (Ev.h1 (strm (intsV zs) d)) (fun v g => v = fz ⟨ys⟩ ∧ g.get 0 = some (strm (intsV zs) d'))) : SpOK (spAt zs d n d' ys) := by
  intro f args h v h' hs
  unfold spAt at hs
  obtain ⟨hf, hs2⟩ := cond_some hs
  clear hs
  have := Nat.eq_of_beq_eq_true hf
  subst this
  split at hs2
  · rename_i b k
    split at hs2
    · rename_i x at_ t hg
      injection hs2 with hs
      injection hs with hb hs
      injection hs with hv hh
      subst hv hh
      simp only [Bool.and_eq_true, decide_eq_true_eq] at hb
      obtain ⟨⟨⟨b1, b2⟩, rfl⟩, rfl⟩ := hb
      have := eqV_eq b1
      subst this
      have b2 := Nat.eq_of_beq_eq_true b2
      subst b2
      exact ⟨FnOK.ref (cs := ⟨[fz (intsV zs), .int .i64 _]⟩) (cs' := ⟨[fz (intsV zs), .int .i64 d']⟩) (args := [.int .i64 _]) hF rfl (by simp [p1, fz]) (by simp [p1, fz]) rfl hg, Nat.le_refl _⟩
    · cases hs2
  · cases hs2
noncomputable def spQt (ys : List Value) (e : Int) (f : FuncId) (args : Array Value) (h : AH) : Option (Bool × Value × AH) :=
  cond (Nat.beq f 11) (match args with
    | ⟨[x]⟩ => some (eqV x (fz ⟨ys⟩), .int .i64 e, h)
    | _ => none) none
theorem spQt_ok {ys : List Value} {e : Int} (hF : FnOK 0 Tryz.prog 11 ⟨[fz ⟨ys⟩]⟩ h0 (fun v _ => v = .int .i64 e)) : SpOK (spQt ys e) := by
  intro f args h v h' hs
  unfold spQt at hs
  obtain ⟨hf, hs2⟩ := cond_some hs
  clear hs
  have := Nat.eq_of_beq_eq_true hf
  subst this
  split at hs2
  · rename_i x
    injection hs2 with hs
    injection hs with hb hs
    injection hs with hv hh
    subst hv hh
    have := eqV_eq hb
    subst this
    exact ⟨FnOK.pure hF rfl rfl h, Nat.le_refl _⟩
  · cases hs2
noncomputable def SLz (zs : List Int) (c m p b d n d' : Int) (ys : List Value) (e : Int) : SC := ⟨idn, spOr spReady (spOr (spLr zs c m p b d) (spOr (spAt zs (d + 1) n d' ys) (spOr (spQt ys e) (spOr spCl (spOr spAf (spOr spPm (spOr spPt (spOr spPs (spOr spPi (spOr spPn (spOr sp_mW (spOr sp_wW (spOr sp_aW (spOr sp_mB (spOr sp_wB (spOr sp_aB (spNext []))))))))))))))))), true, true⟩
theorem SLz_ok {zs : List Int} {c m p b d n d' : Int} {ys : List Value} {e : Int} (hr : ∀ Q : Value → Option Obj → Prop, Q (lmV keyB c m p b) (some (strm (intsV zs) d)) → rlT (intsV zs) 0 keyB Q)
    (hA : FnOK 1 Tryz.prog 8 ⟨[.pointer (some ⟨0, 0, none⟩), .int .i64 n]⟩ (Ev.h1 (strm (intsV zs) (d + 1))) (fun v g => v = fz ⟨ys⟩ ∧ g.get 0 = some (strm (intsV zs) d')))
    (hQ : FnOK 0 Tryz.prog 11 ⟨[fz ⟨ys⟩]⟩ h0 (fun v _ => v = .int .i64 e)) : (SLz zs c m p b d n d' ys e).cfg.OK Tryz.prog :=
  (spReady_ok.or ((spLr_ok hr).or ((spAt_ok hA).or ((spQt_ok hQ).or (spCl_ok.or (spAf_ok.or (spPm_ok.or (spPt_ok.or (spPs_ok.or (spPi_ok.or (spPn_ok.or (sp_mW_ok.or (sp_wW_ok.or (sp_aW_ok.or (sp_mB_ok.or (sp_wB_ok.or (sp_aB_ok.or (spNext_ok [])))))))))))))))))).cfg
theorem someLW : Tryz.f4.body.isSome = true := by kernel_rfl
theorem one11 : (loopAt (codeOf Tryz.f4) 11).length = 1 := by kernel_rfl
noncomputable def preT (zs : List Int) (c m p b d n d2 : Int) (ys : List Value) (e : Int) (X : Prop) : Prop :=
  bif eqV (fz (intsV zs)) (fz (intsV zs)) && Nat.beq 25 25 && decide ((0 : Int) = 0) && eqV (.string keyB) (.string keyB) then dr (intsV zs) d (bif eqV (fz (intsV zs)) (fz (intsV zs)) && Nat.beq 25 25 && decide (d + 1 = d + 1) && decide (IntKind.i64.wrap (0 + nextR (intsV zs) d 11) = n) then
    bif eqV (fz ⟨ys⟩) (fz ⟨ys⟩) then bif e != 0 then False else bif okLB keyB c m p b && Nat.beq 46 46 then bif okLB keyB c m p b && Nat.beq 46 46 then X else False else False else False else False) else False
def mx0 (x : Int) : Int := if x > 0 then x else 0
def atP : List Value := [.int .i64 0, .int .i64 1, .int .i64 5, .int .i64 20]
noncomputable def endT (zs : List Int) (d2 at_ now A : Int) (X F : Prop) : Prop :=
  dr (intsV zs) d2 (rg (nextR (intsV zs) d2 4) 4 4 (Value.int .i64 (IntKind.i64.wrap (at_ + gI atP (nextR (intsV zs) d2 4))) = .int .i64 A ∧
    bif decide (A ≥ 0) then bif !(bif true then decide (A < 345686400000) else false) then F else bif decide (A < now) then F else X else F))
end Go.Proofs.YtbigicdojndnjaaGreatDoor
