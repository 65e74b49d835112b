/-
  Paths: Get finds what a path leads to.
-/
import Derived.Test.YtmclppkligkooaaGreatDoorLvO
namespace Go.Proofs.YtmclppkligkooaaGreatDoor
open Go.Ev Go.RowKit
set_option maxRecDepth 20000

theorem spAt_ok {ok : Bool} {x s y : Value} (hx : p2 x = true) (hs : p2 s = true) (hy : p2 y = true) (hF : ok = true → FnOK 0 Tryz.prog 18 ⟨[x, s]⟩ h0 (fun u _ => u = .tuple ⟨[y, .bool true]⟩)) : SpOK (spAt ok x s y) := by
  intro f args h v h' hsp
  unfold spAt at hsp
  obtain ⟨hf, hs2⟩ := cond_some hsp
  clear hsp
  have := Nat.eq_of_beq_eq_true hf
  subst this
  split at hs2
  · injection hs2 with hs3
    injection hs3 with hb hs3
    injection hs3 with hv hh
    subst hv hh
    simp only [Bool.and_eq_true] at hb
    obtain ⟨⟨b0, b1⟩, b2⟩ := hb
    have b1 := eqV_eq b1
    have b2 := eqV_eq b2
    subst b1 b2
    refine ⟨FnOK.pure (hF b0) ?_ ?_ h, Nat.le_refl _⟩
    · show (p2 _ && (p2 _ && true)) = true
      rw [hx, hs]; rfl
    · show (p2 y && (p2 (.bool true) && true)) = true
      rw [hy]; rfl
  · cases hs2
theorem spCl_ok (k : Int) (f : Bool) (n : Int) (s : ByteArray) : SpOK (spCl (vV k f n s [] [])) := by
  have hF := vc_fn k f n s
  intro f args h v h' hsp
  unfold spCl at hsp
  obtain ⟨hf, hs2⟩ := cond_some hsp
  clear hsp
  have := Nat.eq_of_beq_eq_true hf
  subst this
  split at hs2
  · injection hs2 with hs3
    injection hs3 with hb hs3
    injection hs3 with hv hh
    subst hv hh
    have b1 := eqV_eq hb
    subst b1
    exact ⟨FnOK.pure hF rfl rfl h, Nat.le_refl _⟩
  · cases hs2
theorem nn_z2 : NoNames zO2 := nn_al rfl
theorem enc_leaf : ∀ {n : Nat} {v : ValLaw.T n}, ValLaw.At n v [] → ∃ (k : Int) (f : Bool) (m : Int) (s : ByteArray), enc n v = vV k f m s [] []
  | 0, (k, f, m, w), _ => ⟨k, f, m, bl w, rfl⟩
  | n + 1, ((k, f, m, w), X, M), h => by
    obtain ⟨h1, h2⟩ := h
    have h1 : X = [] := h1
    have h2 : M = [] := h2
    subst h1 h2
    exact ⟨k, f, m, bl w, rfl⟩
theorem gt_loop {p : List ValLaw.Stp} (hp : p.length ≤ 3) : ∀ (r D : List ValLaw.Stp) (n : Nat) (v : ValLaw.T n) (k : Int) (f : Bool) (m : Int) (s : ByteArray) (xs ys : List Value), ValLaw.GR n v → ValLaw.At n v r → p = D ++ r → enc n v = vV k f m s xs ys →
    ∃ (k2 : Int) (f2 : Bool) (m2 : Int) (s2 : ByteArray), ∀ K : AExit → List Value → AH → Prop, K (.exit 0) [p0V, p1V] (gH k2 f2 m2 s2 [] []) → iterE 0 Tryz.prog 44 [2, 4, 25, 26, 27] [0, 1] [2, 4] [0, 1] (oneLoop (codeOf Tryz.f6) 8) (r.length + 1) [p0V, p1V, fz ⟨p.map stepV⟩, .int .i64 (p.length : Int), .int .i64 (D.length : Int)] (gH k f m s xs ys) K
  | [], D, n, v, k, f, m, s, xs, ys, hg, hA, hpD, he => by
    obtain ⟨k2, f2, m2, s2, hl⟩ := enc_leaf hA
    rw [hl] at he
    have hD : D.length = p.length := by rw [hpD, List.append_nil]
    refine ⟨k2, f2, m2, s2, fun K hK => ?_⟩
    refine ⟨SAt false undef undef (vV 0 false 0 ⟨#[]⟩ [] []), [], noHooks, 900, ?_, loops_none _ _ _ _, ?_⟩
    · refine SpOK.cfg ?_
      intro f args h v h' hsp
      unfold spAt at hsp
      obtain ⟨hf, hs2⟩ := cond_some hsp
      split at hs2
      · injection hs2 with hs3
        injection hs3 with hb hs3
        cases hb
      · cases hs2
    have e := fun B => gt_rd false undef undef 0 false 0 ⟨#[]⟩ [] [] k f m s xs ys (p.map stepV) (p.length : Int) (D.length : Int) B K
    refine (e _).mpr (pick_f (decide_eq_false (by omega)) ⟨nn_box _ _ _ _ _ _, nn_z2, ?_⟩)
    have hi : vV k2 f2 m2 s2 [] [] = vV k f m s xs ys := he
    unfold vV at hi
    simp only [Value.agg.injEq, Array.mk.injEq, List.cons.injEq, Value.int.injEq, Value.bool.injEq, Value.string.injEq, true_and, and_true] at hi
    obtain ⟨rfl, rfl, rfl, rfl, q5, q6⟩ := hi
    have q5 : [] = xs := by simpa [fz] using q5
    have q6 : [] = ys := by simpa [fz] using q6
    subst q5 q6
    exact hK
  | t :: r, D, n, v, k, f, m, s, xs, ys, hg, hA, hpD, he => by
    match n, v, hg, hA, he with
    | 0, v, hg, hA, he =>
      have hA : t :: r = [] := hA
      cases hA
    | n + 1, v, hg, hA, he =>
      obtain ⟨x, hgx, hAx, hF⟩ := at_fn hg hA
      obtain ⟨k1, f1, m1, s1, xs1, ys1, hx⟩ := enc_vV n x
      obtain ⟨k2, f2, m2, s2, next⟩ := gt_loop hp r (D ++ [t]) n x k1 f1 m1 s1 xs1 ys1 hgx hAx (by rw [hpD, List.append_assoc]; rfl) hx
      have hDl : D.length + (r.length + 1) = p.length := by rw [hpD, List.length_append]; rfl
      have ex : elV (p.map stepV) (D.length : Int) = stepV t := by
        show (p.map stepV).getD D.length undef = _
        rw [List.getD_eq_getElem?_getD, List.getElem?_map, hpD, List.getElem?_append_right (Nat.le_refl _), Nat.sub_self]
        rfl
      have hF : FnOK 0 Tryz.prog 18 ⟨[enc (n + 1) v, stepV t]⟩ h0 (fun u _ => u = .tuple ⟨[enc n x, .bool true]⟩) := hF
      rw [he, hx] at hF
      refine ⟨k2, f2, m2, s2, fun K hK => ?_⟩
      refine ⟨SAt true (vV k f m s xs ys) (stepV t) (vV k1 f1 m1 s1 xs1 ys1), [], noHooks, 900, (spAt_ok rfl rfl rfl (fun _ => hF)).cfg, loops_none _ _ _ _, ?_⟩
      have e := fun B => gt_rd true (vV k f m s xs ys) (stepV t) k1 f1 m1 s1 xs1 ys1 k f m s xs ys (p.map stepV) (p.length : Int) (D.length : Int) B K
      refine (e _).mpr (pick_t (decide_eq_true (by omega)) (nd_mk ?_ ⟨?_, nd_mk ?_ ⟨nn_box _ _ _ _ _ _, nn_z2, ?_⟩⟩))
      · simp only [Bool.and_eq_true, decide_eq_true_eq]
        exact ⟨⟨by omega, by show (D.length : Int) < ((p.map stepV).length : Int); rw [List.length_map]; omega⟩, rfl⟩
      · rw [ex]; rfl
      · rw [ex, eqV_self]
        show (true && true && eqV (stepV t) (stepV t)) = true
        rw [eqV_self]; rfl
      · have := next K hK
        rw [List.length_append] at this
        unfold wp
        rw [wrapS (by omega)]
        exact this
theorem gt_fn {v : ValLaw.T 3} (hv : ValLaw.GR 3 v) {p : List ValLaw.Stp} (hA : ValLaw.At 3 v p) : ∃ (k : Int) (f : Bool) (m : Int) (s : ByteArray), FnOK 0 Tryz.prog 6 ⟨[enc 3 v, pathV p]⟩ h0 (fun u _ => u = .tuple ⟨[vV k f m s [] [], .bool true, .int .i64 0]⟩) := by
  have hp : okP p := ValLaw.at_steps hv hA
  have hck := ck_fn hp
  have hsC := spC1_ok (ValLaw.gr_gv hv)
  obtain ⟨k, f, m, s, xs, ys, hx⟩ := enc_vV 3 v
  obtain ⟨k2, f2, m2, s2, main⟩ := gt_loop hp.1 p [] 3 v k f m s xs ys hv hA rfl hx
  rw [hx] at hsC ⊢
  refine ⟨k2, f2, m2, s2, ?_⟩
  have hsp : LSpec 0 Tryz.prog 44 (oneLoop (codeOf Tryz.f6) 8) (hookLS 0 44 [2, 4, 25, 26, 27] [0, 1] [2, 4] (fun vals h K => (vals = [p0V, p1V, fz ⟨p.map stepV⟩, .int .i64 (p.length : Int), .int .i64 0] ∧ h = gH k f m s xs ys) ∧ K (.exit 0) [p0V, p1V] (gH k2 f2 m2 s2 [] []))) := by
    refine hookE_ok (sameX := [0, 1]) mixed (by decide) ?_
    rintro vals h K ⟨⟨rfl, rfl⟩, hK⟩
    exact ⟨_, main K hK⟩
  have e0 := gt_hd (p.map stepV) k2 f2 m2 s2 k f m s xs ys (fun vals h => vals = [p0V, p1V, fz ⟨p.map stepV⟩, .int .i64 (p.length : Int), .int .i64 0] ∧ h = gH k f m s xs ys) (fun u => u = .tuple ⟨[vV k2 f2 m2 s2 [] [], .bool true, .int .i64 0]⟩)
  refine FnOK.ttree (hsC.or ((spCp_ok hck).or (spCl_ok k2 f2 m2 s2))).cfg mixed Tryz.func6 someGT (loops_one oneGT8 hsp) e0 (nd_mk (eqV_self _) (nd_mk (eqV_self _) ⟨nn_box _ _ _ _ _ _, nn_z2, ⟨?_, rfl⟩, nd_mk (eqV_self _) rfl⟩))
  rw [show ((Array.mk (p.map stepV)).size : Int) = (p.length : Int) from by show ((p.map stepV).length : Int) = _; rw [List.length_map]]
end Go.Proofs.YtmclppkligkooaaGreatDoor
