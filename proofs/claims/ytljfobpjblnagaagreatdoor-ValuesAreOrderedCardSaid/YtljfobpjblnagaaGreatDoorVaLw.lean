/-
  Values: the law's run.
-/
import Derived.Test.YtljfobpjblnagaaGreatDoorVaZ
namespace Go.Proofs.YtljfobpjblnagaaGreatDoor
open Go.Ev Go.RowKit
set_option maxRecDepth 20000

def RvGood (xs : Array Value) (e : Int) (q : ValLaw.T 2 × Int) : Prop := ValLaw.GR 2 q.1 ∧ e ≤ q.2 ∧ q.2 ≤ e + 570 ∧ RvF xs 2 e q.2 (enc 2 q.1)
theorem rv_good (zs : List Int) {e : Int} (h0 : 0 ≤ e) (h1 : e ≤ 800000) : ∃ q, RvGood (intsV zs) e q := by
  have e570 : mR 2 = 570 := rfl
  obtain ⟨v, e', a1, a2, a3, a4⟩ := (rv_ex zs).2.2 e h0 (by omega)
  exact ⟨(v, e'), a1, a2, by omega, a4⟩
open Classical in
noncomputable def rvQ (xs : Array Value) (e : Int) : ValLaw.T 2 × Int := if h : ∃ q, RvGood xs e q then h.choose else (leafT 2 (0, false, 0, []), 0)
theorem rvQ_ok (zs : List Int) {e : Int} (h0 : 0 ≤ e) (h1 : e ≤ 800000) : RvGood (intsV zs) e (rvQ (intsV zs) e) := by
  have h := rv_good zs h0 h1
  unfold rvQ
  rw [dif_pos h]
  exact h.choose_spec
open Classical in
noncomputable def okR (x : Value) : Bool := @decide (∃ v : ValLaw.T 2, ValLaw.GR 2 v ∧ x = enc 2 v) (Classical.propDecidable _)
theorem okR_iff {x : Value} : okR x = true ↔ ∃ v : ValLaw.T 2, ValLaw.GR 2 v ∧ x = enc 2 v := by unfold okR; exact @decide_eq_true_iff _ (Classical.propDecidable _)
def NrGood (xs : Array Value) (e : Int) (y : Value) (q : ValLaw.T 4 × Int) : Prop := ValLaw.GV 4 q.1 ∧ e ≤ q.2 ∧ q.2 ≤ e + 115000 ∧ NrF xs e q.2 y (enc 4 q.1)
theorem nr_good (zs : List Int) {e : Int} {y : Value} (hy : okR y = true) (h0 : 0 ≤ e) (h1 : e ≤ 700000) : ∃ q, NrGood (intsV zs) e y q := by
  obtain ⟨v, hv, rfl⟩ := okR_iff.1 hy
  have em : mN 2 = 114112 := by decide
  obtain ⟨w, e', a1, a2, a3, a4⟩ := near_ex zs v hv e h0 (by omega)
  exact ⟨(w, e'), a1, a2, by show e' ≤ e + 115000; omega, a4⟩
open Classical in
noncomputable def nrQ (xs : Array Value) (e : Int) (y : Value) : ValLaw.T 4 × Int := if h : ∃ q, NrGood xs e y q then h.choose else (leafT 4 (0, false, 0, []), 0)
theorem nrQ_ok (zs : List Int) {e : Int} {y : Value} (hy : okR y = true) (h0 : 0 ≤ e) (h1 : e ≤ 700000) : NrGood (intsV zs) e y (nrQ (intsV zs) e y) := by
  have h := nr_good zs hy h0 h1
  unfold nrQ
  rw [dif_pos h]
  exact h.choose_spec
noncomputable def spRv2 (f : FuncId) (args : Array Value) (h : AH) : Option (Bool × Value × AH) :=
  cond (Nat.beq f 4) (match args with
    | ⟨[.pointer (some ⟨b, 0, none⟩), .int .i64 d]⟩ => match h.get b with
      | some (.cells ⟨[.func (.yield 0) xs ⟨[]⟩, .int .i64 at_]⟩ t (0, 0)) => some (Nat.beq t 25 && decide (d = 2) && decide (0 ≤ at_) && decide (at_ ≤ 800000) && allInts xs, enc 2 (rvQ xs at_).1, h.set b (.cells ⟨[fz xs, .int .i64 (rvQ xs at_).2]⟩ 25 (0, 0)))
      | _ => none
    | _ => none) none
theorem spRv2_ok : SpOK spRv2 := by
  intro f args h v h' hs
  unfold spRv2 at hs
  obtain ⟨hf, hs2⟩ := cond_some hs
  clear hs
  have := Nat.eq_of_beq_eq_true hf
  subst this
  split at hs2
  · rename_i b d
    split at hs2
    · rename_i xs at_ t hg
      injection hs2 with hs
      injection hs with hb hs
      injection hs with hv hh
      subst hv hh
      simp only [Bool.and_eq_true, decide_eq_true_eq] at hb
      obtain ⟨⟨⟨⟨b0, rfl⟩, b2⟩, b3⟩, b4⟩ := hb
      have b0 := Nat.eq_of_beq_eq_true b0
      subst b0
      obtain ⟨zs, rfl⟩ := intsV_of_all b4
      exact ⟨FnOK.ref (cs := ⟨[fz (intsV zs), .int .i64 at_]⟩) (cs' := ⟨[fz (intsV zs), .int .i64 (rvQ (intsV zs) at_).2]⟩) (args := [.int .i64 2]) (rvQ_ok zs b2 b3).2.2.2 rfl (by simp [p1, fz]) (by simp [p1, fz]) (enc_p3 2 _) hg, Nat.le_refl _⟩
    · cases hs2
  · cases hs2
noncomputable def spNr2 (f : FuncId) (args : Array Value) (h : AH) : Option (Bool × Value × AH) :=
  cond (Nat.beq f 5) (match args with
    | ⟨[.pointer (some ⟨b, 0, none⟩), y]⟩ => match h.get b with
      | some (.cells ⟨[.func (.yield 0) xs ⟨[]⟩, .int .i64 at_]⟩ t (0, 0)) => some (Nat.beq t 25 && decide (0 ≤ at_) && decide (at_ ≤ 700000) && okR y && allInts xs, enc 4 (nrQ xs at_ y).1, h.set b (.cells ⟨[fz xs, .int .i64 (nrQ xs at_ y).2]⟩ 25 (0, 0)))
      | _ => none
    | _ => none) none
theorem spNr2_ok : SpOK spNr2 := by
  intro f args h v h' hs
  unfold spNr2 at hs
  obtain ⟨hf, hs2⟩ := cond_some hs
  clear hs
  have := Nat.eq_of_beq_eq_true hf
  subst this
  split at hs2
  · rename_i b y
    split at hs2
    · rename_i xs at_ t hg
      injection hs2 with hs
      injection hs with hb hs
      injection hs with hv hh
      subst hv hh
      simp only [Bool.and_eq_true, decide_eq_true_eq] at hb
      obtain ⟨⟨⟨⟨b0, b2⟩, b3⟩, b4⟩, b5⟩ := hb
      have b0 := Nat.eq_of_beq_eq_true b0
      subst b0
      obtain ⟨zs, rfl⟩ := intsV_of_all b5
      have hF := (nrQ_ok zs b4 b2 b3).2.2.2
      have hy : p2 y = true := by
        obtain ⟨v, _, rfl⟩ := okR_iff.1 b4
        exact enc_p2 2 v
      exact ⟨FnOK.ref (cs := ⟨[fz (intsV zs), .int .i64 at_]⟩) (cs' := ⟨[fz (intsV zs), .int .i64 (nrQ (intsV zs) at_ y).2]⟩) (args := [y]) hF (by show (p2 y && true) = true; rw [hy]; rfl) (by simp [p1, fz]) (by simp [p1, fz]) (enc_p3 4 _) hg, Nat.le_refl _⟩
    · cases hs2
  · cases hs2
noncomputable def SL : SC := ⟨idn, spOr spReady (spOr spRv2 (spOr spNr2 (spOr spCm spTx))), true, true⟩
theorem SL_ok : SL.cfg.OK Tryz.prog := (spReady_ok.or (spRv2_ok.or (spNr2_ok.or (spCm_ok.or spTx_ok)))).cfg
noncomputable def lwR (a b : Value) (Q : Value → Prop) : Prop := bif okV a then bif okV b then bif ((cmV a b == 0) == ((txV a).toList == (txV b).toList)) then Q (.bool true) else Q (.bool false) else False else False
noncomputable def lwT (a b c : Value) (Q : Value → Prop) : Prop :=
  bif okV a && okV b then bif okV b && okV a then bif okV b && okV c then bif okV a && okV c then
    bif cmV a b != IntKind.i64.wrap (0 - cmV b a) then Q (.bool false) else
      bif decide (cmV a b ≤ 0) then bif decide (cmV b c ≤ 0) then bif decide (cmV a c > 0) then Q (.bool false) else lwR a b Q else lwR a b Q else lwR a b Q
  else False else False else False else False
theorem someLW : Tryz.f3.body.isSome = true := by kernel_rfl
theorem lw_eq (xs : Array Value) (Q : Value → Prop) : ffn Tryz.prog SL [] 2000 [] Tryz.f3 [fz xs] h0 (fun v _ => Q v) =
    bif allInts xs then bif decide (0 ≤ (rvQ xs 0).2) && decide ((rvQ xs 0).2 ≤ 700000) && okR (enc 2 (rvQ xs 0).1) && allInts xs then bif decide (0 ≤ (nrQ xs (rvQ xs 0).2 (enc 2 (rvQ xs 0).1)).2) && decide ((nrQ xs (rvQ xs 0).2 (enc 2 (rvQ xs 0).1)).2 ≤ 800000) && allInts xs then lwT (enc 2 (rvQ xs 0).1) (enc 4 (nrQ xs (rvQ xs 0).2 (enc 2 (rvQ xs 0).1)).1) (enc 2 (rvQ xs (nrQ xs (rvQ xs 0).2 (enc 2 (rvQ xs 0).1)).2).1) Q else False else False else False := by kernel_rfl
theorem okV_two {t : ValLaw.T 2} (h : ValLaw.GR 2 t) : okV (enc 2 t) = true := by
  obtain ⟨w, h1, h2⟩ := t2_up 2 h
  exact okV_iff.2 ⟨w, h1, h2.symm⟩
theorem tl_eq (l : List UInt8) : (bl l).toList = l := by rw [Go.ByteArray.toList_eq, bl_list]
theorem cmI (x y : Int) : -1 ≤ ValLaw.cmpI x y ∧ ValLaw.cmpI x y ≤ 1 := by
  unfold ValLaw.cmpI
  split
  · omega
  · split <;> omega
theorem orE_in {a b : Int} (h1 : -1 ≤ a ∧ a ≤ 1) (h2 : -1 ≤ b ∧ b ≤ 1) : -1 ≤ ValLaw.orE a b ∧ ValLaw.orE a b ≤ 1 := by
  unfold ValLaw.orE
  split
  · exact h2
  · exact h1
theorem cmL_in {α : Type} {C : α → α → Int} (h : ∀ x y, -1 ≤ C x y ∧ C x y ≤ 1) : ∀ xs ys : List α, -1 ≤ ValLaw.cmpL C xs ys ∧ ValLaw.cmpL C xs ys ≤ 1
  | [], [] => by show -1 ≤ (0 : Int) ∧ (0 : Int) ≤ 1; omega
  | [], _ :: _ => by show -1 ≤ (-1 : Int) ∧ (-1 : Int) ≤ 1; omega
  | _ :: _, [] => by show -1 ≤ (1 : Int) ∧ (1 : Int) ≤ 1; omega
  | x :: xs, y :: ys => orE_in (h x y) (cmL_in h xs ys)
theorem cmW_in (a b : ValLaw.W) : -1 ≤ ValLaw.cmpW a b ∧ ValLaw.cmpW a b ≤ 1 := cmL_in (fun x y => cmI _ _) a b
theorem cmB_in (a b : ValLaw.Base) : -1 ≤ ValLaw.cmpB a b ∧ ValLaw.cmpB a b ≤ 1 := by
  refine orE_in (cmI _ _) (orE_in ?_ (orE_in (cmI _ _) (cmW_in _ _)))
  unfold ValLaw.cmpF ValLaw.flagN
  split <;> split <;> omega
theorem cm_in : ∀ (n : Nat) (a b : ValLaw.T n), -1 ≤ ValLaw.cmp n a b ∧ ValLaw.cmp n a b ≤ 1
  | 0, a, b => cmB_in a b
  | n + 1, a, b => orE_in (cmB_in _ _) (orE_in (cmL_in (cm_in n) _ _) (cmL_in (fun x y => orE_in (cmW_in _ _) (cm_in n _ _)) _ _))
theorem lwT_mk {a b c : Value} (ha : okV a = true) (hb : okV b = true) (hc : okV c = true) : lwT a b c (fun v => v = .bool true) := by
  obtain ⟨a1, _⟩ := decV_ok ha
  obtain ⟨b1, _⟩ := decV_ok hb
  obtain ⟨k1, k2, k3⟩ := ValLaw.cmp_law 4 (decV a) (decV b) (decV c)
  have k1 : cmV b a = - cmV a b := k1
  have k2 : cmV a b ≤ 0 → cmV b c ≤ 0 → cmV a c ≤ 0 := k2
  have k3 : cmV a b = 0 ↔ decV a = decV b := k3
  have hin : -1 ≤ cmV a b ∧ cmV a b ≤ 1 := cm_in 4 _ _
  have hR : lwR a b (fun v => v = .bool true) := by
    refine need_mk ha (need_mk hb (pick_t ?_ rfl))
    unfold txV
    rw [tl_eq, tl_eq]
    by_cases h : cmV a b = 0
    · rw [h, k3.1 h, beq_self_eq_true, beq_self_eq_true]
      rfl
    · have hne : ValLaw.txt Lib.itoa 4 (decV a) ≠ ValLaw.txt Lib.itoa 4 (decV b) := fun q => h (k3.2 (ValLaw.txt_inj ValLaw.itoa_num (ValLaw.gv_wf a1) (ValLaw.gv_wf b1) q))
      rw [beq_eq_false_iff_ne.2 h, beq_eq_false_iff_ne.2 hne]
      rfl
  have w : IntKind.i64.wrap (0 - cmV b a) = cmV a b := by rw [wrap_id _ (by omega) (by omega)]; omega
  unfold lwT
  refine need_mk (by rw [ha, hb]; rfl) (need_mk (by rw [hb, ha]; rfl) (need_mk (by rw [hb, hc]; rfl) (need_mk (by rw [ha, hc]; rfl) (pick_f (by rw [w]; simp) ?_))))
  by_cases q1 : cmV a b ≤ 0
  · refine pick_t (decide_eq_true q1) ?_
    by_cases q2 : cmV b c ≤ 0
    · refine pick_t (decide_eq_true q2) (pick_f (decide_eq_false ?_) hR)
      have := k2 q1 q2
      omega
    · exact pick_f (decide_eq_false q2) hR
  · exact pick_f (decide_eq_false q1) hR
end Go.Proofs.YtljfobpjblnagaaGreatDoor
