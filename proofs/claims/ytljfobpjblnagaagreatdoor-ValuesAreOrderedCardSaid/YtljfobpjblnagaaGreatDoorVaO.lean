/-
  Values near another one: Near by existence: the whole.
-/
import Derived.Test.YtljfobpjblnagaaGreatDoorVaN
namespace Go.Ev
open Go.RowKit
/-- An empty list in an argument: nil, or not. -/
theorem CRel.split {N : Emb} {u : Value} {l : List Value} {k : Nat} {args' : Array Value} (h : CRel N ⟨[u, .agg ⟨l⟩]⟩ args') (hk : l[k]? = some (fz ⟨[]⟩)) : ∃ x, (x = ez ∨ ∃ c, x = .slice none 0 c) ∧ CRel N ⟨[u, .agg ⟨l.set k x⟩]⟩ args' := by
  obtain ⟨u0, v0, rfl, hu, hv⟩ := two_args h
  have hkl : k < l.length := (List.getElem?_eq_some_iff.1 hk).1
  cases hv with
  | agg c c' hs hr =>
    have hsz : c'.size = l.length := hs.symm
    have h4 : c'[k]? = some (c'[k]'(by omega)) := Array.getElem?_eq_getElem (by omega)
    have hv4 := hr k (fz ⟨[]⟩) _ (by simpa using hk) h4
    have go : ∀ a c, c'[k]'(by omega) = .slice a 0 c → ∃ x, (x = ez ∨ ∃ c, x = .slice none 0 c) ∧ CRel N ⟨[u, .agg ⟨l.set k x⟩]⟩ #[u0, .agg c'] := by
      intro a c hac
      have mk : ∀ x, VRel N x (.slice a 0 c) → CRel N ⟨[u, .agg ⟨l.set k x⟩]⟩ #[u0, .agg c'] := fun x hx => by
        refine ⟨rfl, fun i y z p q => ?_⟩
        match i, p, q with
        | 0, p, q => cases p; cases q; exact hu
        | 1, p, q =>
          cases p; cases q
          refine .agg _ _ (by simp [hsz]) fun i y z p q => ?_
          have p : (l.set k x)[i]? = some y := by simpa using p
          by_cases hik : k = i
          · subst hik
            rw [List.getElem?_set_self hkl] at p
            cases p
            rw [h4] at q
            cases q
            rw [hac]; exact hx
          · rw [List.getElem?_set_ne hik] at p
            exact hr i y z (by simpa using p) q
        | i + 2, p, q => cases p
      cases a with
      | none => exact ⟨_, .inr ⟨c, rfl⟩, mk _ (.slice0 0 c)⟩
      | some a => exact ⟨_, .inl rfl, mk _ (.ez a c)⟩
    rcases VRel.inv_fz hv4 with ⟨_, a, c, e⟩ | ⟨s, b, o, c, cs, _, _, _, _, _, e⟩
    · exact go a c e
    · exact go _ c e
end Go.Ev
namespace Go.Proofs.YtljfobpjblnagaaGreatDoor
open Go.Ev Go.RowKit
set_option maxRecDepth 100000

theorem nr_low {zs : List Int} (H2 : RvEx zs 2) {k : Int} (f : Bool) (n : Int) (s : ByteArray) (hk0 : 0 ≤ k) (hk3 : k ≤ 3) {e : Int} (h0 : 0 ≤ e) (h1 : e + 1000 ≤ 900000) :
    ∃ (y : Value) (e' : Int), ((∃ x : ValLaw.T 2, ValLaw.GR 2 x ∧ y = enc 2 x) ∨ y = vV k f n s [] []) ∧ e ≤ e' ∧ e' ≤ e + 1000 ∧ NrF (intsV zs) e e' (vV k f n s [] []) y := by
  have hk : k = 0 ∨ k = 1 ∨ k = 2 ∨ k = 3 := by omega
  rcases hk with rfl | rfl | rfl | rfl
  · by_cases hr : nextR (intsV zs) e 3 = 0
    · obtain ⟨x, e', b1, b2, b3, b4⟩ := H2 (e + 1) (by omega) (by have : mR 2 = 570 := rfl; omega)
      have e570 : mR 2 = 570 := rfl
      obtain ⟨ka, fa, na, sa, la, ma, hx⟩ := enc_vV 2 x
      rw [hx] at b4
      refine ⟨vV ka fa na sa la ma, e', .inl ⟨x, b1, hx.symm⟩, by omega, by omega, ?_⟩
      have e0 := nh0 (intsV zs) true false e 0 (e + 1) e' 0 0 ka fa na sa la ma 0 false 0 ⟨#[]⟩ [] [] f n s (fun v o => v = vV ka fa na sa la ma ∧ o = some (strm (intsV zs) e'))
      exact FnOK.ttree (SRw_ok (fun _ => ⟨rfl, b4⟩) (fun h => Bool.noConfusion h)).cfg mixed Tryz.func5 someNR (loops_none _ _ _ _) e0 (drT_mk h0 (by omega) (pick_t (by rw [hr]; rfl) (need_mk (rwC_mk rfl) ⟨rfl, rfl⟩)))
    · refine ⟨_, e + 1, .inr rfl, by omega, by omega, ?_⟩
      have e0 := nh0 (intsV zs) false false e 0 0 0 0 0 0 false 0 ⟨#[]⟩ [] [] 0 false 0 ⟨#[]⟩ [] [] f n s (fun v o => v = vV 0 f n s [] [] ∧ o = some (strm (intsV zs) (e + 1)))
      exact FnOK.ttree (SRw_ok (fun h => Bool.noConfusion h) (fun h => Bool.noConfusion h)).cfg mixed Tryz.func5 someNR (loops_none _ _ _ _) e0 (drT_mk h0 (by omega) (pick_f (beq_eq_false_iff_ne.2 hr) ⟨rfl, rfl⟩))
  · by_cases hr : nextR (intsV zs) e 3 = 0
    · obtain ⟨x, e', b1, b2, b3, b4⟩ := H2 (e + 1) (by omega) (by have : mR 2 = 570 := rfl; omega)
      have e570 : mR 2 = 570 := rfl
      obtain ⟨ka, fa, na, sa, la, ma, hx⟩ := enc_vV 2 x
      rw [hx] at b4
      refine ⟨vV ka fa na sa la ma, e', .inl ⟨x, b1, hx.symm⟩, by omega, by omega, ?_⟩
      have e0 := nh1 (intsV zs) true false e 0 (e + 1) e' 0 0 ka fa na sa la ma 0 false 0 ⟨#[]⟩ [] [] f n s (fun v o => v = vV ka fa na sa la ma ∧ o = some (strm (intsV zs) e'))
      exact FnOK.ttree (SRw_ok (fun _ => ⟨rfl, b4⟩) (fun h => Bool.noConfusion h)).cfg mixed Tryz.func5 someNR (loops_none _ _ _ _) e0 (drT_mk h0 (by omega) (pick_t (by rw [hr]; rfl) (need_mk (rwC_mk rfl) ⟨rfl, rfl⟩)))
    · refine ⟨_, e + 1, .inr rfl, by omega, by omega, ?_⟩
      have e0 := nh1 (intsV zs) false false e 0 0 0 0 0 0 false 0 ⟨#[]⟩ [] [] 0 false 0 ⟨#[]⟩ [] [] f n s (fun v o => v = vV 1 f n s [] [] ∧ o = some (strm (intsV zs) (e + 1)))
      exact FnOK.ttree (SRw_ok (fun h => Bool.noConfusion h) (fun h => Bool.noConfusion h)).cfg mixed Tryz.func5 someNR (loops_none _ _ _ _) e0 (drT_mk h0 (by omega) (pick_f (beq_eq_false_iff_ne.2 hr) ⟨rfl, rfl⟩))
  · by_cases hr : nextR (intsV zs) e 3 = 0
    · obtain ⟨x, e', b1, b2, b3, b4⟩ := H2 (e + 1) (by omega) (by have : mR 2 = 570 := rfl; omega)
      have e570 : mR 2 = 570 := rfl
      obtain ⟨ka, fa, na, sa, la, ma, hx⟩ := enc_vV 2 x
      rw [hx] at b4
      refine ⟨vV ka fa na sa la ma, e', .inl ⟨x, b1, hx.symm⟩, by omega, by omega, ?_⟩
      have e0 := nh2 (intsV zs) true false e 0 (e + 1) e' 0 0 ka fa na sa la ma 0 false 0 ⟨#[]⟩ [] [] f n s (fun v o => v = vV ka fa na sa la ma ∧ o = some (strm (intsV zs) e'))
      exact FnOK.ttree (SRw_ok (fun _ => ⟨rfl, b4⟩) (fun h => Bool.noConfusion h)).cfg mixed Tryz.func5 someNR (loops_none _ _ _ _) e0 (drT_mk h0 (by omega) (pick_t (by rw [hr]; rfl) (need_mk (rwC_mk rfl) ⟨rfl, rfl⟩)))
    · refine ⟨_, e + 1, .inr rfl, by omega, by omega, ?_⟩
      have e0 := nh2 (intsV zs) false false e 0 0 0 0 0 0 false 0 ⟨#[]⟩ [] [] 0 false 0 ⟨#[]⟩ [] [] f n s (fun v o => v = vV 2 f n s [] [] ∧ o = some (strm (intsV zs) (e + 1)))
      exact FnOK.ttree (SRw_ok (fun h => Bool.noConfusion h) (fun h => Bool.noConfusion h)).cfg mixed Tryz.func5 someNR (loops_none _ _ _ _) e0 (drT_mk h0 (by omega) (pick_f (beq_eq_false_iff_ne.2 hr) ⟨rfl, rfl⟩))
  · by_cases hr : nextR (intsV zs) e 3 = 0
    · obtain ⟨x, e', b1, b2, b3, b4⟩ := H2 (e + 1) (by omega) (by have : mR 2 = 570 := rfl; omega)
      have e570 : mR 2 = 570 := rfl
      obtain ⟨ka, fa, na, sa, la, ma, hx⟩ := enc_vV 2 x
      rw [hx] at b4
      refine ⟨vV ka fa na sa la ma, e', .inl ⟨x, b1, hx.symm⟩, by omega, by omega, ?_⟩
      have e0 := nh3 (intsV zs) true false e 0 (e + 1) e' 0 0 ka fa na sa la ma 0 false 0 ⟨#[]⟩ [] [] f n s (fun v o => v = vV ka fa na sa la ma ∧ o = some (strm (intsV zs) e'))
      exact FnOK.ttree (SRw_ok (fun _ => ⟨rfl, b4⟩) (fun h => Bool.noConfusion h)).cfg mixed Tryz.func5 someNR (loops_none _ _ _ _) e0 (drT_mk h0 (by omega) (pick_t (by rw [hr]; rfl) (need_mk (rwC_mk rfl) ⟨rfl, rfl⟩)))
    · refine ⟨_, e + 1, .inr rfl, by omega, by omega, ?_⟩
      have e0 := nh3 (intsV zs) false false e 0 0 0 0 0 0 false 0 ⟨#[]⟩ [] [] 0 false 0 ⟨#[]⟩ [] [] f n s (fun v o => v = vV 3 f n s [] [] ∧ o = some (strm (intsV zs) (e + 1)))
      exact FnOK.ttree (SRw_ok (fun h => Bool.noConfusion h) (fun h => Bool.noConfusion h)).cfg mixed Tryz.func5 someNR (loops_none _ _ _ _) e0 (drT_mk h0 (by omega) (pick_f (beq_eq_false_iff_ne.2 hr) ⟨rfl, rfl⟩))

/-! an empty list -/
theorem clz_eq (Q : Value → Option Obj → Prop) : tfn Tryz.prog ⟨idn, fun _ _ _ => none, false, false⟩ [] (ghost1 1 (unezG 8 0)) 600 [] Tryz.f13 [ez] h0 (fun v h => Q v (h.get 0)) = Q (.slice (some ⟨0, 0, none⟩) 0 0) (some (.cells ⟨[]⟩ 29 (0, 0))) := by kernel_rfl
theorem someCL : Tryz.f13.body.isSome = true := by kernel_rfl
theorem spCz_ok : SpOK spCz := by
  intro f args h v h' hs
  unfold spCz at hs
  obtain ⟨hf, hs2⟩ := cond_some hs
  clear hs
  have := Nat.eq_of_beq_eq_true hf
  subst this
  split at hs2
  · injection hs2 with hs
    injection hs with hb hs
    injection hs with hv hh
    subst hv hh
    have hF : FnOK 0 Tryz.prog 13 ⟨[ez]⟩ h0 (fun v g => v = .slice (some ⟨0, 0, none⟩) 0 0 ∧ g.get 0 = some (.cells ⟨[]⟩ 29 (0, 0))) :=
      FnOK.ttree none_ok.cfg mixed Tryz.func13 someCL (ghosts_one (by kernel_rfl) (unezG_ok _ _ _ _)) (clz_eq (fun v o => v = .slice (some ⟨0, 0, none⟩) 0 0 ∧ o = some (.cells ⟨[]⟩ 29 (0, 0)))) ⟨rfl, rfl⟩
    refine ⟨FnOK.new1 (u := .slice (some ⟨0, 0, none⟩) 0 0) (cs := []) (hF.mono fun v g ⟨h1, h2⟩ => ⟨0, ?_, h2⟩) rfl (fun x hx => by cases hx) ?_, Nat.le_succ _⟩
    · rw [h1]; rfl
    · simp [ren2, ren1, ren0, renB]
  · cases hs2
theorem nr_l0 {zs : List Int} (H2 : RvEx zs 2) (H1 : RvEx zs 1) {c : Nat} (hc : ∀ x : ValLaw.T 1, ValLaw.GR 1 x → ∃ w : ValLaw.T c, ValLaw.GV c w ∧ enc c w = enc 1 x) {e : Int} (h0 : 0 ≤ e) (h1 : e + 1000 ≤ 900000) :
    ∃ (y : Value) (e' : Int), ((∃ x : ValLaw.T 2, ValLaw.GR 2 x ∧ y = enc 2 x) ∨ ∃ L : List (ValLaw.T c), L.length ≤ 4 ∧ (∀ x ∈ L, ValLaw.GV c x) ∧ y = vV 4 false 0 ⟨#[]⟩ (L.map (enc c)) []) ∧ e ≤ e' ∧ e' ≤ e + 1000 ∧ NrF (intsV zs) e e' (vV 4 false 0 ⟨#[]⟩ [] []) y := by
  have go : ∀ {y : Value} {e' : Int} {oa ob : Bool} {ea ea' eb eb' : Int} {ka : Int} {fa : Bool} {na : Int} {sa : ByteArray} {la ma : List Value} {kb : Int} {fb : Bool} {nb : Int} {sb : ByteArray} {lb mb : List Value},
      (oa = true → RvF (intsV zs) 2 ea ea' (vV ka fa na sa la ma)) → (ob = true → RvF (intsV zs) 1 eb eb' (vV kb fb nb sb lb mb)) →
      (drT (intsV zs) e (bif nextR (intsV zs) e 3 == 0 then bif rwC oa (intsV zs) (e + 1) ea then (fun (v : Value) (o : Option Obj) => v = y ∧ o = some (strm (intsV zs) e')) (.agg ⟨c6 ka fa na sa la ma⟩) (some (strm (intsV zs) ea')) else False else drT (intsV zs) (e + 1) (bif nextR (intsV zs) (e + 1) 3 == 0 then bif rwC ob (intsV zs) ((e + 1) + 1) eb then (fun (v : Value) (o : Option Obj) => v = y ∧ o = some (strm (intsV zs) e')) (.agg ⟨c6 4 false 0 ⟨#[]⟩ ([] ++ [vV kb fb nb sb lb mb]) []⟩) (some (strm (intsV zs) eb')) else False else drT (intsV zs) ((e + 1) + 1) (bif nextR (intsV zs) ((e + 1) + 1) 3 == 0 then (fun (v : Value) (o : Option Obj) => v = y ∧ o = some (strm (intsV zs) e')) (.agg ⟨c6 4 false 0 ⟨#[]⟩ [] []⟩) (some (strm (intsV zs) ((e + 1) + 1 + 1))) else (fun (v : Value) (o : Option Obj) => v = y ∧ o = some (strm (intsV zs) e')) (.agg ⟨c6 4 false 0 ⟨#[]⟩ [] []⟩) (some (strm (intsV zs) ((e + 1) + 1 + 1))))))) → NrF (intsV zs) e e' (vV 4 false 0 ⟨#[]⟩ [] []) y := by
    intro y e' oa ob ea ea' eb eb' ka fa na sa la ma kb fb nb sb lb mb hA hB ht
    refine FnOK.refine fun N args' hcr => ?_
    obtain ⟨x, hx, hcr2⟩ := CRel.split (k := 4) (l := [.int .i64 4, .bool false, .int .i64 0, .string ⟨#[]⟩, fz ⟨[]⟩, fz ⟨[]⟩]) hcr rfl
    refine ⟨_, ?_, hcr2⟩
    rcases hx with rfl | ⟨c, rfl⟩
    · have e0 := nh4_e (intsV zs) oa ob e 0 ea ea' eb eb' ka fa na sa la ma kb fb nb sb lb mb (fun v o => v = y ∧ o = some (strm (intsV zs) e'))
      exact FnOK.ttree (spCz_ok.or (SRw_ok (fun h => ⟨rfl, hA h⟩) (fun h => ⟨rfl, hB h⟩))).cfg mixed Tryz.func5 someNR (gh15 (intsV zs)) e0 ht
    · have e0 := nh4_n (intsV zs) oa ob e 0 ea ea' eb eb' ka fa na sa la ma kb fb nb sb lb mb c (fun v o => v = y ∧ o = some (strm (intsV zs) e'))
      exact FnOK.ttree (SRw_ok (fun h => ⟨rfl, hA h⟩) (fun h => ⟨rfl, hB h⟩)).cfg mixed Tryz.func5 someNR (gh15 (intsV zs)) e0 ht
  by_cases hr : nextR (intsV zs) e 3 = 0
  · obtain ⟨x, e', b1, b2, b3, b4⟩ := H2 (e + 1) (by omega) (by have : mR 2 = 570 := rfl; omega)
    have e570 : mR 2 = 570 := rfl
    obtain ⟨ka, fa, na, sa, la, ma, hx⟩ := enc_vV 2 x
    rw [hx] at b4
    exact ⟨vV ka fa na sa la ma, e', .inl ⟨x, b1, hx.symm⟩, by omega, by omega, go (oa := true) (ob := false) (ea := e + 1) (eb := 0) (eb' := 0) (kb := 0) (fb := false) (nb := 0) (sb := ⟨#[]⟩) (lb := []) (mb := []) (fun _ => b4) (fun h => Bool.noConfusion h) (drT_mk h0 (by omega) (pick_t (by rw [hr]; rfl) (need_mk (rwC_mk rfl) ⟨rfl, rfl⟩)))⟩
  · by_cases hr2 : nextR (intsV zs) (e + 1) 3 = 0
    · obtain ⟨x, e', b1, b2, b3, b4⟩ := H1 (e + 1 + 1) (by omega) (by have : mR 1 = 80 := rfl; omega)
      have e80 : mR 1 = 80 := rfl
      obtain ⟨x', q1, q2⟩ := hc x b1
      obtain ⟨kb, fb, nb, sb, lb, mb, hx⟩ := enc_vV 1 x
      rw [hx] at b4 q2
      refine ⟨vV 4 false 0 ⟨#[]⟩ [vV kb fb nb sb lb mb] [], e', .inr ⟨[x'], by simp, fun y hy => ?_, by rw [← q2]; rfl⟩, by omega, by omega, go (oa := false) (ob := true) (eb := e + 1 + 1) (ea := 0) (ea' := 0) (ka := 0) (fa := false) (na := 0) (sa := ⟨#[]⟩) (la := []) (ma := []) (fun h => Bool.noConfusion h) (fun _ => b4) (drT_mk h0 (by omega) (pick_f (beq_eq_false_iff_ne.2 hr) (drT_mk (by omega) (by omega) (pick_t (by rw [hr2]; rfl) (need_mk (rwC_mk rfl) ⟨rfl, rfl⟩)))))⟩
      rw [List.mem_singleton.1 hy]; exact q1
    · refine ⟨vV 4 false 0 ⟨#[]⟩ [] [], e + 1 + 1 + 1, .inr ⟨[], by simp, fun y hy => (by cases hy), rfl⟩, by omega, by omega, go (oa := false) (ob := false) (eb := 0) (eb' := 0) (ea := 0) (ea' := 0) (ka := 0) (fa := false) (na := 0) (sa := ⟨#[]⟩) (la := []) (ma := []) (kb := 0) (fb := false) (nb := 0) (sb := ⟨#[]⟩) (lb := []) (mb := []) (fun h => Bool.noConfusion h) (fun h => Bool.noConfusion h) (drT_mk h0 (by omega) (pick_f (beq_eq_false_iff_ne.2 hr) (drT_mk (by omega) (by omega) (pick_f (beq_eq_false_iff_ne.2 hr2) (drT_mk (by omega) (by omega) ?_)))))⟩
      by_cases hr3 : nextR (intsV zs) (e + 1 + 1) 3 = 0
      · exact pick_t (by rw [hr3]; rfl) ⟨rfl, rfl⟩
      · exact pick_f (beq_eq_false_iff_ne.2 hr3) ⟨rfl, rfl⟩
end Go.Proofs.YtljfobpjblnagaaGreatDoor
