/-
  Values as they are drawn: RightValue: lists, members; the whole.
-/
import Derived.Test.YtmclppkligkooaaGreatDoorVaJ
namespace Go.Proofs.YtmclppkligkooaaGreatDoor
open Go.Ev Go.RowKit
set_option maxRecDepth 100000

/-- A list's kind. -/
theorem rv_four {zs : List Int} {D : Int} {e e' : Int} (h0 : 0 ≤ e') (h1 : e' ≤ 900010) (hH : ∀ K : Int → Int → Prop, K 4 e' → rvH (intsV zs) D e K) {d : Nat} {L : List (ValLaw.T d)} {e2 : Int} {n : Nat} (hn : nextR (intsV zs) e' 4 = (n : Int))
    (hl : ∀ K, K (.exit 1) [p1V, p2V] (hLs (intsV zs) e2 4 d L) → ∃ r, iterE 1 Tryz.prog 88 [0, 1, 4, 5, 46, 47] [3] [4, 5] [3] (oneLoop (codeOf Tryz.f4) 13) r (vL D (n : Int) 0) (hL0 (intsV zs) (e' + 1) 4) K) : RvF (intsV zs) D e e2 (vV 4 false 0 ⟨#[]⟩ (L.map (enc d)) []) := by
  obtain ⟨nx, lw, hW⟩ := wkL (zs := zs) e2 4 ⟨expand 88 [4, 5] [p1V, p2V]⟩ L
  have hA : LSpec 1 Tryz.prog 88 (oneLoop (codeOf Tryz.f4) 13) (hookLS 1 88 [0, 1, 4, 5, 46, 47] [3] [4, 5] (fun vals h K => (vals = vL D (nextR (intsV zs) e' 4) 0 ∧ h = hL0 (intsV zs) (e' + 1) 4) ∧ K (.exit 1) [p1V, p2V] (hFl nx lw (intsV zs) e2 4 (L.map (enc d))))) := by
    refine hookW_ok (sameX := [3]) mixed (by decide) ?_
    rintro vals h K ⟨⟨rfl, rfl⟩, hK⟩
    rw [hn]
    exact hl _ ⟨_, _, hW, hK⟩
  have e0 := rv0 nx lw 0 0 (intsV zs) e e2 0 4 D (L.map (enc d)) [] (fun vals h => vals = vL D (nextR (intsV zs) e' 4) 0 ∧ h = hL0 (intsV zs) (e' + 1) 4) (fun _ _ => False) (fun v o => Le v (vV 4 false 0 ⟨#[]⟩ (L.map (enc d)) []) ∧ o = some (strm (intsV zs) e2))
  have ht : rvK (intsV zs) D 4 e2 0 (L.map (enc d)) [] (fun vals h => vals = vL D (nextR (intsV zs) e' 4) 0 ∧ h = hL0 (intsV zs) (e' + 1) 4) (fun _ _ => False) (fun v o => Le v (vV 4 false 0 ⟨#[]⟩ (L.map (enc d)) []) ∧ o = some (strm (intsV zs) e2)) 4 e' := by
    unfold rvK
    exact drT_mk h0 (by omega) ⟨⟨rfl, rfl⟩, le6 Le.rfl' Le.nil, rfl⟩
  exact rv_done (FnOK.ttree SI1_ok mixed Tryz.func4 someRV (loops_or (loops_one oneRV13 hA) (loops_one oneRV19 (noB zs 0 0 0 4 []))) e0 (hH _ ht))
theorem rv_five {zs : List Int} {D : Int} {e e' : Int} (hH : ∀ K : Int → Int → Prop, K 5 e' → rvH (intsV zs) D e K) {d : Nat} {M : List (ValLaw.W × ValLaw.T d)} {e3 : Int}
    (hl : ∀ K, K (.exit 3) [p1V, p2V] (hXs (intsV zs) e3 5 d M) → ∃ r, iterE 1 Tryz.prog 88 [0, 1, 4, 5, 63, 64, 65] [4] [4, 5] [3] (oneLoop (codeOf Tryz.f4) 19) r (vM D 0) (hM0 (intsV zs) e' 5) K) : RvF (intsV zs) D e e3 (vV 5 false 0 ⟨#[]⟩ [] (M.map fun p => mbr p.1 (enc d p.2))) := by
  obtain ⟨nx, lw, hW⟩ := wkM (zs := zs) e3 5 ⟨expand 88 [4, 5] [p1V, p2V]⟩ M
  have hB : LSpec 1 Tryz.prog 88 (oneLoop (codeOf Tryz.f4) 19) (hookLS 1 88 [0, 1, 4, 5, 63, 64, 65] [4] [4, 5] (fun vals h K => (vals = vM D 0 ∧ h = hM0 (intsV zs) e' 5) ∧ K (.exit 3) [p1V, p2V] (hFm nx lw (intsV zs) e3 5 (M.map fun p => mbr p.1 (enc d p.2))))) := by
    refine hookW_ok (sameX := [3]) mixed (by decide) ?_
    rintro vals h K ⟨⟨rfl, rfl⟩, hK⟩
    exact hl _ ⟨_, _, hW, hK⟩
  have e0 := rv0 0 0 nx lw (intsV zs) e 0 e3 5 D [] (M.map fun p => mbr p.1 (enc d p.2)) (fun _ _ => False) (fun vals h => vals = vM D 0 ∧ h = hM0 (intsV zs) e' 5) (fun v o => Le v (vV 5 false 0 ⟨#[]⟩ [] (M.map fun p => mbr p.1 (enc d p.2))) ∧ o = some (strm (intsV zs) e3))
  have ht : rvK (intsV zs) D 5 0 e3 [] (M.map fun p => mbr p.1 (enc d p.2)) (fun _ _ => False) (fun vals h => vals = vM D 0 ∧ h = hM0 (intsV zs) e' 5) (fun v o => Le v (vV 5 false 0 ⟨#[]⟩ [] (M.map fun p => mbr p.1 (enc d p.2))) ∧ o = some (strm (intsV zs) e3)) 5 e' := by
    unfold rvK
    exact ⟨⟨rfl, rfl⟩, le6 Le.nil Le.rfl', rfl⟩
  exact rv_done (FnOK.ttree SI1_ok mixed Tryz.func4 someRV (loops_or (loops_one oneRV13 (noA zs 0 0 0 5 [])) (loops_one oneRV19 hB)) e0 (hH _ ht))
theorem rv_ex0 (zs : List Int) : RvEx zs 0 := by
  intro e h0 h1
  have h1 : e + 10 ≤ 900000 := h1
  obtain ⟨k, e', ⟨k0, k1⟩, a1, a2, hH⟩ := rv_head (zs := zs) 0 h0 (by omega)
  by_cases h3 : k ≤ 3
  · obtain ⟨b, e2, b1, b2, b3, b4⟩ := rv_leaf (by omega) (by omega) hH k0 h3
    exact ⟨leafT 0 b, e2, leaf_gr b1, by omega, by show e2 ≤ e + 10; omega, by rw [leaf_enc]; exact b4⟩
  · have hk : k = 4 ∨ k = 5 := by omega
    rcases hk with rfl | rfl
    · have bn := nx_in zs (d := e') (n := 4) (by omega) (by omega) (by omega) (by omega)
      obtain ⟨n, hn⟩ := Int.eq_ofNat_of_zero_le bn.1
      have hF := rv_four (L := ([] : List (ValLaw.T 0))) (e2 := e' + 1) (by omega) (by omega) hH hn (fun K hK => ⟨_, lloop0 (e' + 1) 4 (by omega) K hK n 0 (by omega)⟩)
      exact ⟨leafT 0 (4, false, 0, []), e' + 1, leaf_gr okD4, by omega, by show e' + 1 ≤ e + 10; omega, by rw [leaf_enc]; exact hF⟩
    · have hF := rv_five (M := ([] : List (ValLaw.W × ValLaw.T 0))) (e3 := e') hH (fun K hK => ⟨_, mzero0 _ K (mzero1 _ K (mzero2 _ K (mzero3 _ K (mzero4 _ K (mzero5 _ K (mend (d := 0) 0 K [] hK))))))⟩)
      exact ⟨leafT 0 (5, false, 0, []), e', leaf_gr okD5, by omega, by show e' ≤ e + 10; omega, by rw [leaf_enc]; exact hF⟩
theorem rv_exS {zs : List Int} {d : Nat} (hd : d ≤ 100) (IH : RvEx zs d) : RvEx zs (d + 1) := by
  intro e h0 h1
  have h1 : e + ((10 + 7 * mR d : Nat) : Int) ≤ 900000 := h1
  obtain ⟨k, e', ⟨k0, k1⟩, a1, a2, hH⟩ := rv_head (zs := zs) ((d + 1 : Nat) : Int) h0 (by omega)
  show ∃ (v : ValLaw.T (d + 1)) (e' : Int), ValLaw.GR (d + 1) v ∧ e ≤ e' ∧ e' ≤ e + ((10 + 7 * mR d : Nat) : Int) ∧ RvF (intsV zs) ((d + 1 : Nat) : Int) e e' (enc (d + 1) v)
  by_cases h3 : k ≤ 3
  · obtain ⟨b, e2, b1, b2, b3, b4⟩ := rv_leaf (by omega) (by omega) hH k0 h3
    exact ⟨leafT (d + 1) b, e2, leaf_gr b1, by omega, by omega, by rw [leaf_enc]; exact b4⟩
  · have hk : k = 4 ∨ k = 5 := by omega
    rcases hk with rfl | rfl
    · have bn := nx_in zs (d := e') (n := 4) (by omega) (by omega) (by omega) (by omega)
      obtain ⟨n, hn⟩ := Int.eq_ofNat_of_zero_le bn.1
      have hm : (n : Int) * (mR d : Int) ≤ 3 * (mR d : Int) := Int.mul_le_mul_of_nonneg_right (by omega) (by omega)
      have hp : (0 : Int) ≤ (n : Int) * (mR d : Int) := Int.mul_nonneg (by omega) (by omega)
      obtain ⟨L, e2, c1, c2, c3, c4, c5⟩ := lloop IH hd 4 (n := n) (by omega) n 0 [] (e' + 1) (by omega) (Nat.zero_le _) (fun x hx => by cases hx) (by omega) (by omega)
      have hF := rv_four (L := L) (e2 := e2) (by omega) (by omega) hH hn (fun K hK => ⟨_, c5 K hK⟩)
      exact ⟨((4, false, 0, []), L, []), e2, ⟨okD4, .inl rfl, .inr rfl, c2, fun x hx => (by cases hx), by show L.length ≤ 3; omega, List.nil_sublist _⟩, by omega, by omega, hF⟩
    · obtain ⟨M1, f1, s1, g1, u1, v1, w1⟩ := mstep0 IH hd (k := 5) (M := []) (e := e') (List.Sublist.refl _) (fun x hx => by cases hx) (by omega) (by omega)
      obtain ⟨M2, f2, s2, g2, u2, v2, w2⟩ := mstep1 IH hd (k := 5) (e := f1) s1 g1 (by omega) (by omega)
      obtain ⟨M3, f3, s3, g3, u3, v3, w3⟩ := mstep2 IH hd (k := 5) (e := f2) s2 g2 (by omega) (by omega)
      obtain ⟨M4, f4, s4, g4, u4, v4, w4⟩ := mstep3 IH hd (k := 5) (e := f3) s3 g3 (by omega) (by omega)
      obtain ⟨M5, f5, s5, g5, u5, v5, w5⟩ := mstep4 IH hd (k := 5) (e := f4) s4 g4 (by omega) (by omega)
      obtain ⟨M6, f6, s6, g6, u6, v6, w6⟩ := mstep5 IH hd (k := 5) (e := f5) s5 g5 (by omega) (by omega)
      have hF := rv_five (M := M6) (e3 := f6) hH (fun K hK => ⟨_, w1 _ K (w2 _ K (w3 _ K (w4 _ K (w5 _ K (w6 _ K (mend 0 K M6 hK))))))⟩)
      exact ⟨((5, false, 0, []), [], M6), f6, ⟨okD5, .inr rfl, .inl rfl, fun x hx => (by cases hx), g6, Nat.zero_le _, s6⟩, by omega, by omega, hF⟩
theorem rv_ex (zs : List Int) : RvEx zs 0 ∧ RvEx zs 1 ∧ RvEx zs 2 :=
  have h0 := rv_ex0 zs
  have h1 := rv_exS (by decide) h0
  ⟨h0, h1, rv_exS (by decide) h1⟩
end Go.Proofs.YtmclppkligkooaaGreatDoor
