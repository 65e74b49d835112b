/-
  Paths to leaves: leaves, Leaves.
-/
import Derived.Test.YtmclppkligkooaaGreatDoorLvD
namespace Go.Proofs.YtmclppkligkooaaGreatDoor
open Go.Ev Go.RowKit
set_option maxRecDepth 20000

theorem someLV : Tryz.f16.body.isSome = true := by kernel_rfl
theorem oneLV4 : (loopAt (codeOf Tryz.f16) 4).length = 1 := by kernel_rfl
theorem oneLV9 : (loopAt (codeOf Tryz.f16) 9).length = 1 := by kernel_rfl
theorem l4n_fn {L : List ValLaw.Stp} (hL : L.length ≤ 2) (k : Int) (f : Bool) (n : Int) (s : ByteArray) (x : Value) (l : List Value) (hl : (x :: l).length ≤ 5000) (R : List (Value × List Value)) (hR : R.map (·.1) = x :: l) (hR2 : ∀ (i : Nat) (p : Value × List Value), R[i]? = some p → p.1 = e6 p.1 ∧ p.2 ≠ [] ∧ LvF p.1 (pathV (L ++ [(false, [], (i : Int))])) p.2) (ts : List Value) (hts : R.flatMap (·.2) = ts) (hne : ts ≠ []) (hb : ts.length ≤ 5000) :
    FnOK 0 Tryz.prog 16 ⟨[nlV, vV k f n s (x :: l) [], pathV L]⟩ h0 (fun v g => slN v = some (ts.length, ts.length) ∧ g.get (blkOf v) = some (.cells ⟨ts⟩ 35 (0, 0))) := by
  have hlen : R.length = (x :: l).length := by rw [← hR, List.length_map]
  have htot : ts ≠ [] := hne
  obtain ⟨cs2, hcs2⟩ : ∃ cs2, cs2 = ts := ⟨_, rfl⟩
  obtain ⟨j2, hj2⟩ : ∃ j2, j2 = cs2.length := ⟨_, rfl⟩
  have hA : LSpec 0 Tryz.prog 60 (oneLoop (codeOf Tryz.f16) 4) (hookLS 0 60 [0, 2, 4, 27, 28, 29] [0] [0, 2, 4] (fun vals h K => (vals = (lVs (pathV L) (x :: l) 0 []) ∧ h = (lHs k f n s (x :: l) [] [])) ∧ K (.exit 0) [.slice (some ⟨0, 0, none⟩) j2 j2, pathV L, p1V] (lB k f n s (x :: l) [] cs2 j2))) := by
    refine hookE_ok (sameX := [0]) mixed (by decide) ?_
    rintro vals h K ⟨⟨rfl, rfl⟩, hK⟩
    refine ⟨_, l1_loop hL K (x :: l) hl R 0 [] (by rw [hR]; rfl) (by rw [hlen]; omega) (fun i p hp => by
      have := hR2 i p hp
      rw [Nat.zero_add]
      exact this) rfl (by rw [hts]; show [].length + ts.length ≤ 5000; show 0 + ts.length ≤ 5000; omega) ?_⟩
    rw [hts]
    match cs2, hcs2, hj2, hK with
    | [], hcs2, _, _ => exact absurd hcs2.symm htot
    | c :: tl, hcs2, hj2, hK =>
      have e : [] ++ ts = c :: tl := hcs2.symm
      rw [e]
      rw [hj2] at hK
      exact hK
  have e0 := l4n k f n s (L.map stepV) x l (fun vals h => vals = (lVs (pathV L) (x :: l) 0 []) ∧ h = (lHs k f n s (x :: l) [] [])) cs2 j2 (fun u o => u = some (cs2.length, cs2.length) ∧ o = some (.cells ⟨cs2⟩ 35 (0, 0)))
  rw [← hcs2]
  exact FnOK.ttree SP0_ok mixed Tryz.func16 someLV (loops_one oneLV4 hA) e0 ⟨nn_box _ _ _ _ _ _, ⟨rfl, rfl⟩, by rw [hj2], rfl⟩
theorem l4b_fn {L : List ValLaw.Stp} (hL : L.length ≤ 2) (k : Int) (f : Bool) (n : Int) (s : ByteArray) (x : Value) (l : List Value) (hl : (x :: l).length ≤ 5000) (R : List (Value × List Value)) (hR : R.map (·.1) = x :: l) (hR2 : ∀ (i : Nat) (p : Value × List Value), R[i]? = some p → p.1 = e6 p.1 ∧ p.2 ≠ [] ∧ LvF p.1 (pathV (L ++ [(false, [], (i : Int))])) p.2) (ts : List Value) (hts : R.flatMap (·.2) = ts) (hne : ts ≠ []) (c0 : Value) (l0 : List Value) (hc0 : (c0 :: l0).all p1 = true) (hb : (c0 :: l0).length + ts.length ≤ 5000) :
    FnOK 0 Tryz.prog 16 ⟨[slV (l0.length + 1), vV k f n s (x :: l) [], pathV L]⟩ (oB (c0 :: l0) (l0.length + 1)) (fun v g => slN v = some (((c0 :: l0) ++ ts).length, ((c0 :: l0) ++ ts).length) ∧ g.get (blkOf v) = some (.cells ⟨((c0 :: l0) ++ ts)⟩ 35 (0, 0))) := by
  have hlen : R.length = (x :: l).length := by rw [← hR, List.length_map]
  have htot : ((c0 :: l0) ++ ts) ≠ [] := fun q => by cases q
  obtain ⟨cs2, hcs2⟩ : ∃ cs2, cs2 = ((c0 :: l0) ++ ts) := ⟨_, rfl⟩
  obtain ⟨j2, hj2⟩ : ∃ j2, j2 = cs2.length := ⟨_, rfl⟩
  have hA : LSpec 0 Tryz.prog 60 (oneLoop (codeOf Tryz.f16) 4) (hookLS 0 60 [0, 2, 4, 27, 28, 29] [0] [0, 2, 4] (fun vals h K => (vals = (lVs (pathV L) (x :: l) 0 (c0 :: l0)) ∧ h = (lHs k f n s (x :: l) [] (c0 :: l0))) ∧ K (.exit 0) [.slice (some ⟨0, 0, none⟩) j2 j2, pathV L, p1V] (lB k f n s (x :: l) [] cs2 j2))) := by
    refine hookE_ok (sameX := [0]) mixed (by decide) ?_
    rintro vals h K ⟨⟨rfl, rfl⟩, hK⟩
    refine ⟨_, l1_loop hL K (x :: l) hl R 0 (c0 :: l0) (by rw [hR]; rfl) (by rw [hlen]; omega) (fun i p hp => by
      have := hR2 i p hp
      rw [Nat.zero_add]
      exact this) hc0 (by rw [hts]; show (c0 :: l0).length + ts.length ≤ 5000; exact hb) ?_⟩
    rw [hts]
    match cs2, hcs2, hj2, hK with
    | [], hcs2, _, _ => exact absurd hcs2.symm htot
    | c :: tl, hcs2, hj2, hK =>
      have e : (c0 :: l0) ++ ts = c :: tl := hcs2.symm
      rw [e]
      rw [hj2] at hK
      exact hK
  have e0 := l4b k f n s (L.map stepV) x l (fun vals h => vals = (lVs (pathV L) (x :: l) 0 (c0 :: l0)) ∧ h = (lHs k f n s (x :: l) [] (c0 :: l0))) cs2 j2 (c0 :: l0) (l0.length + 1) (fun u o => u = some (cs2.length, cs2.length) ∧ o = some (.cells ⟨cs2⟩ 35 (0, 0)))
  rw [← hcs2]
  exact FnOK.ttree SP0_ok mixed Tryz.func16 someLV (loops_one oneLV4 hA) e0 ⟨nn_al hc0, ⟨rfl, rfl⟩, by rw [hj2], rfl⟩
theorem l5n_fn {L : List ValLaw.Stp} (hL : L.length ≤ 2) (k : Int) (f : Bool) (n : Int) (s : ByteArray) (x : Value) (l : List Value) (hl : (x :: l).length ≤ 5000) (R : List (Value × List Value)) (hR : R.map (·.1) = x :: l) (hR2 : ∀ (i : Nat) (p : Value × List Value), R[i]? = some p → p.1 = e7 p.1 ∧ p.2 ≠ [] ∧ ∃ w : List UInt8, elS (x :: l) (i : Int) = bl w ∧ LvF (m6 p.1) (pathV (L ++ [(true, w, 0)])) p.2) (ts : List Value) (hts : R.flatMap (·.2) = ts) (hne : ts ≠ []) (hb : ts.length ≤ 5000) :
    FnOK 0 Tryz.prog 16 ⟨[nlV, vV k f n s [] (x :: l), pathV L]⟩ h0 (fun v g => slN v = some (ts.length, ts.length) ∧ g.get (blkOf v) = some (.cells ⟨ts⟩ 35 (0, 0))) := by
  have hlen : R.length = (x :: l).length := by rw [← hR, List.length_map]
  have htot : ts ≠ [] := hne
  obtain ⟨cs2, hcs2⟩ : ∃ cs2, cs2 = ts := ⟨_, rfl⟩
  obtain ⟨j2, hj2⟩ : ∃ j2, j2 = cs2.length := ⟨_, rfl⟩
  have hA : LSpec 0 Tryz.prog 60 (oneLoop (codeOf Tryz.f16) 9) (hookLS 0 60 [0, 2, 43, 44, 45] [0] [0] (fun vals h K => (vals = (mVs (pathV L) (x :: l) 0 []) ∧ h = (mHs [])) ∧ K (.exit 2) [.slice (some ⟨0, 0, none⟩) j2 j2] (oB cs2 j2))) := by
    refine hookE_ok (sameX := [0]) mixed (by decide) ?_
    rintro vals h K ⟨⟨rfl, rfl⟩, hK⟩
    refine ⟨_, l2_loop hL K (x :: l) hl R 0 [] (by rw [hR]; rfl) (by rw [hlen]; omega) (fun i p hp => by
      have := hR2 i p hp
      rw [Nat.zero_add]
      exact this) rfl (by rw [hts]; show [].length + ts.length ≤ 5000; show 0 + ts.length ≤ 5000; omega) ?_⟩
    rw [hts]
    match cs2, hcs2, hj2, hK with
    | [], hcs2, _, _ => exact absurd hcs2.symm htot
    | c :: tl, hcs2, hj2, hK =>
      have e : [] ++ ts = c :: tl := hcs2.symm
      rw [e]
      rw [hj2] at hK
      exact hK
  have e0 := l5n k f n s (L.map stepV) x l (fun vals h => vals = (mVs (pathV L) (x :: l) 0 []) ∧ h = (mHs [])) cs2 j2 (fun u o => u = some (cs2.length, cs2.length) ∧ o = some (.cells ⟨cs2⟩ 35 (0, 0)))
  rw [← hcs2]
  exact FnOK.ttree SP0_ok mixed Tryz.func16 someLV (loops_one oneLV9 hA) e0 ⟨⟨rfl, rfl⟩, by rw [hj2], rfl⟩
theorem l5b_fn {L : List ValLaw.Stp} (hL : L.length ≤ 2) (k : Int) (f : Bool) (n : Int) (s : ByteArray) (x : Value) (l : List Value) (hl : (x :: l).length ≤ 5000) (R : List (Value × List Value)) (hR : R.map (·.1) = x :: l) (hR2 : ∀ (i : Nat) (p : Value × List Value), R[i]? = some p → p.1 = e7 p.1 ∧ p.2 ≠ [] ∧ ∃ w : List UInt8, elS (x :: l) (i : Int) = bl w ∧ LvF (m6 p.1) (pathV (L ++ [(true, w, 0)])) p.2) (ts : List Value) (hts : R.flatMap (·.2) = ts) (hne : ts ≠ []) (c0 : Value) (l0 : List Value) (hc0 : (c0 :: l0).all p1 = true) (hb : (c0 :: l0).length + ts.length ≤ 5000) :
    FnOK 0 Tryz.prog 16 ⟨[slV (l0.length + 1), vV k f n s [] (x :: l), pathV L]⟩ (oB (c0 :: l0) (l0.length + 1)) (fun v g => slN v = some (((c0 :: l0) ++ ts).length, ((c0 :: l0) ++ ts).length) ∧ g.get (blkOf v) = some (.cells ⟨((c0 :: l0) ++ ts)⟩ 35 (0, 0))) := by
  have hlen : R.length = (x :: l).length := by rw [← hR, List.length_map]
  have htot : ((c0 :: l0) ++ ts) ≠ [] := fun q => by cases q
  obtain ⟨cs2, hcs2⟩ : ∃ cs2, cs2 = ((c0 :: l0) ++ ts) := ⟨_, rfl⟩
  obtain ⟨j2, hj2⟩ : ∃ j2, j2 = cs2.length := ⟨_, rfl⟩
  have hA : LSpec 0 Tryz.prog 60 (oneLoop (codeOf Tryz.f16) 9) (hookLS 0 60 [0, 2, 43, 44, 45] [0] [0] (fun vals h K => (vals = (mVs (pathV L) (x :: l) 0 (c0 :: l0)) ∧ h = (mHs (c0 :: l0))) ∧ K (.exit 2) [.slice (some ⟨0, 0, none⟩) j2 j2] (oB cs2 j2))) := by
    refine hookE_ok (sameX := [0]) mixed (by decide) ?_
    rintro vals h K ⟨⟨rfl, rfl⟩, hK⟩
    refine ⟨_, l2_loop hL K (x :: l) hl R 0 (c0 :: l0) (by rw [hR]; rfl) (by rw [hlen]; omega) (fun i p hp => by
      have := hR2 i p hp
      rw [Nat.zero_add]
      exact this) hc0 (by rw [hts]; show (c0 :: l0).length + ts.length ≤ 5000; exact hb) ?_⟩
    rw [hts]
    match cs2, hcs2, hj2, hK with
    | [], hcs2, _, _ => exact absurd hcs2.symm htot
    | c :: tl, hcs2, hj2, hK =>
      have e : (c0 :: l0) ++ ts = c :: tl := hcs2.symm
      rw [e]
      rw [hj2] at hK
      exact hK
  have e0 := l5b k f n s (L.map stepV) x l (fun vals h => vals = (mVs (pathV L) (x :: l) 0 (c0 :: l0)) ∧ h = (mHs (c0 :: l0))) cs2 j2 (c0 :: l0) (l0.length + 1) (fun u o => u = some (cs2.length, cs2.length) ∧ o = some (.cells ⟨cs2⟩ 35 (0, 0)))
  rw [← hcs2]
  exact FnOK.ttree SP0_ok mixed Tryz.func16 someLV (loops_one oneLV9 hA) e0 ⟨nn_al hc0, ⟨rfl, rfl⟩, by rw [hj2], rfl⟩

theorem lv_leaf {L : List ValLaw.Stp} (hl : L.length ≤ 3) (k : Int) (f : Bool) (n : Int) (s : ByteArray) : LvF (vV k f n s [] []) (pathV L) [pathV L] := by
  refine ⟨rfl, rfl, rfl, fun _ => ?_, fun cs hcs h1 hn => ?_⟩
  · have e0 := lfn k f n s (L.map stepV) (fun u o => u = some (1, 1) ∧ o = some (.cells ⟨[pathV L]⟩ 35 (0, 0)))
    exact FnOK.ttree (spCs_ok hl).cfg mixed Tryz.func16 someLV (loops_none _ _ _ _) e0 (need_mk (eqV_self _) ⟨rfl, rfl⟩)
  · have hn : cs.length + 1 ≤ 5000 := hn
    have e0 := lfb k f n s (L.map stepV) cs cs.length (fun u o => u = some (cs.length + 1, cs.length + 1) ∧ o = some (.cells ⟨cs ++ [pathV L]⟩ 35 (0, 0)))
    refine FnOK.ttree (spCs_ok hl).cfg mixed Tryz.func16 someLV (loops_none _ _ _ _) e0 (need_mk (eqV_self _) (pick_f (ble_ss _) (need_mk ?_ (need_mk ?_ ⟨rfl, ?_⟩))))
    · rw [Bool.and_eq_true, Nat.ble_eq, Nat.ble_eq]; omega
    · have : (0 + cs.length * 1).ble (Array.mk cs).size = true := by rw [Nat.ble_eq]; show 0 + cs.length * 1 ≤ cs.length; omega
      rw [this]; rfl
    · show some (Obj.cells ⟨List.take (cs.length * 1) (List.drop 0 cs) ++ [pathV L]⟩ 35 (0, 0)) = _
      rw [List.drop_zero, Nat.mul_one, List.take_length]
def rL (n : Nat) (L : List ValLaw.Stp) : Nat → List (ValLaw.T n) → List (Value × List Value)
  | _, [] => []
  | i, x :: l => (enc n x, (ValLaw.paths n x (L ++ [(false, [], (i : Int))])).map pathV) :: rL n L (i + 1) l
def rM (n : Nat) (L : List ValLaw.Stp) : List (ValLaw.W × ValLaw.T n) → List (Value × List Value)
  | [] => []
  | p :: l => (mbr p.1 (enc n p.2), (ValLaw.paths n p.2 (L ++ [(true, p.1, 0)])).map pathV) :: rM n L l
theorem rL_fst (n : Nat) (L : List ValLaw.Stp) : ∀ (i : Nat) (l : List (ValLaw.T n)), (rL n L i l).map (·.1) = l.map (enc n)
  | _, [] => rfl
  | i, x :: l => by rw [rL, List.map_cons, rL_fst n L (i + 1) l]; rfl
theorem rL_snd (n : Nat) (L : List ValLaw.Stp) : ∀ (i : Nat) (l : List (ValLaw.T n)), (rL n L i l).flatMap (·.2) = (ValLaw.pathsL (ValLaw.paths n) L i l).map pathV
  | _, [] => rfl
  | i, x :: l => by rw [rL, List.flatMap_cons, rL_snd n L (i + 1) l, ValLaw.pathsL, List.map_append]
theorem rL_get (n : Nat) (L : List ValLaw.Stp) : ∀ (l : List (ValLaw.T n)) (i k : Nat) (p : Value × List Value), (rL n L i l)[k]? = some p → ∃ x ∈ l, p = (enc n x, (ValLaw.paths n x (L ++ [(false, [], ((i + k : Nat) : Int))])).map pathV)
  | x :: l, i, 0, p, h => by
    simp [rL] at h
    exact ⟨x, by simp, h.symm⟩
  | x :: l, i, k + 1, p, h => by
    obtain ⟨y, h1, h2⟩ := rL_get n L l (i + 1) k p (by simpa [rL] using h)
    have e : i + (k + 1) = i + 1 + k := by omega
    exact ⟨y, by simp [h1], by rw [e]; exact h2⟩
theorem rM_fst (n : Nat) (L : List ValLaw.Stp) : ∀ (l : List (ValLaw.W × ValLaw.T n)), (rM n L l).map (·.1) = l.map fun p => mbr p.1 (enc n p.2)
  | [] => rfl
  | x :: l => by rw [rM, List.map_cons, rM_fst n L l]; rfl
theorem rM_snd (n : Nat) (L : List ValLaw.Stp) : ∀ (l : List (ValLaw.W × ValLaw.T n)), (rM n L l).flatMap (·.2) = (ValLaw.pathsM (ValLaw.paths n) L l).map pathV
  | [] => rfl
  | x :: l => by rw [rM, List.flatMap_cons, rM_snd n L l, ValLaw.pathsM, List.map_append]
theorem rM_get (n : Nat) (L : List ValLaw.Stp) : ∀ (l : List (ValLaw.W × ValLaw.T n)) (k : Nat) (p : Value × List Value), (rM n L l)[k]? = some p → ∃ x, l[k]? = some x ∧ p = (mbr x.1 (enc n x.2), (ValLaw.paths n x.2 (L ++ [(true, x.1, 0)])).map pathV)
  | x :: l, 0, p, h => by
    simp [rM] at h
    exact ⟨x, rfl, h.symm⟩
  | x :: l, k + 1, p, h => by
    obtain ⟨y, h1, h2⟩ := rM_get n L l k p (by simpa [rM] using h)
    exact ⟨y, by simpa using h1, h2⟩
theorem pathV_p1 (ps : List (List ValLaw.Stp)) : (ps.map pathV).all p1 = true := by
  rw [List.all_eq_true]
  intro v hv
  obtain ⟨p, _, rfl⟩ := List.mem_map.1 hv
  rfl
theorem lv_enc : ∀ (n : Nat) (v : ValLaw.T n) (L : List ValLaw.Stp), ValLaw.GR n v → L.length + n ≤ 3 → LvF (enc n v) (pathV L) ((ValLaw.paths n v L).map pathV)
  | 0, b, L, _, hl => lv_leaf (by omega) _ _ _ _
  | n + 1, v, L, h, hl => by
    obtain ⟨⟨k, f, m, w⟩, X, M⟩ := v
    obtain ⟨_, v2, v3, v4, v5, v6, v7⟩ := h
    simp only at v2 v3 v4 v5 v6 v7
    have hp : ValLaw.paths (n + 1) ((k, f, m, w), X, M) L = if X = [] ∧ M = [] then [L] else ValLaw.pathsL (ValLaw.paths n) L 0 X ++ ValLaw.pathsM (ValLaw.paths n) L M := rfl
    have l6 : M.length ≤ 6 := by have := v7.length_le; rw [List.length_map] at this; exact this
    match X, M, v2, v3, v4, v5, v6, v7, hp, l6 with
    | [], [], _, _, _, _, _, _, hp, _ =>
      rw [hp, if_pos ⟨rfl, rfl⟩]
      exact lv_leaf (by omega) _ _ _ _
    | x :: l, [], _, _, v4, _, v6, _, hp, _ =>
      rw [if_neg (by simp)] at hp
      have e : ValLaw.pathsM (ValLaw.paths n) L ([] : List (ValLaw.W × ValLaw.T n)) = [] := rfl
      rw [e, List.append_nil] at hp
      rw [hp]
      have hne : (ValLaw.pathsL (ValLaw.paths n) L 0 (x :: l)).map pathV ≠ [] := by
        intro q
        have q := List.map_eq_nil_iff.1 q
        exact ValLaw.paths_ne n x _ (List.append_eq_nil_iff.1 q).1
      have hR2 : ∀ (i : Nat) (p : Value × List Value), (rL n L 0 (x :: l))[i]? = some p → p.1 = e6 p.1 ∧ p.2 ≠ [] ∧ LvF p.1 (pathV (L ++ [(false, [], (i : Int))])) p.2 := by
        intro i p hp
        obtain ⟨y, hy, rfl⟩ := rL_get n L (x :: l) 0 i p hp
        rw [Nat.zero_add]
        exact ⟨enc_e6 n y, fun q => ValLaw.paths_ne n y _ (List.map_eq_nil_iff.1 q), lv_enc n y _ (v4 y hy) (by rw [List.length_append, List.length_singleton]; omega)⟩
      refine ⟨pathV_p1 _, rfl, rfl, fun hb => ?_, fun cs hcs h1 hn => ?_⟩
      · exact l4n_fn (L := L) (by omega) k f m (bl w) (enc n x) (l.map (enc n)) (by simp at v6 ⊢; omega) (rL n L 0 (x :: l)) (rL_fst n L 0 (x :: l)) hR2 _ (rL_snd n L 0 (x :: l)) hne hb
      · match cs, hcs, h1, hn with
        | c0 :: l0, hcs, _, hn => exact (l4b_fn (L := L) (by omega) k f m (bl w) (enc n x) (l.map (enc n)) (by simp at v6 ⊢; omega) (rL n L 0 (x :: l)) (rL_fst n L 0 (x :: l)) hR2 _ (rL_snd n L 0 (x :: l)) hne c0 l0 hcs hn).mono fun v g ⟨q1, q2⟩ => ⟨by rw [q1, List.length_append], q2⟩
    | [], p :: l, _, _, _, v5, _, v7, hp, l6 =>
      rw [if_neg (by simp)] at hp
      have e : ValLaw.pathsL (ValLaw.paths n) L 0 ([] : List (ValLaw.T n)) = [] := rfl
      rw [e, List.nil_append] at hp
      rw [hp]
      have hne : (ValLaw.pathsM (ValLaw.paths n) L (p :: l)).map pathV ≠ [] := by
        intro q
        have q := List.map_eq_nil_iff.1 q
        exact ValLaw.paths_ne n p.2 _ (List.append_eq_nil_iff.1 q).1
      have hR2 : ∀ (i : Nat) (q : Value × List Value), (rM n L (p :: l))[i]? = some q → q.1 = e7 q.1 ∧ q.2 ≠ [] ∧ ∃ w : List UInt8, elS ((p :: l).map fun p => mbr p.1 (enc n p.2)) (i : Int) = bl w ∧ LvF (m6 q.1) (pathV (L ++ [(true, w, 0)])) q.2 := by
        intro i q hq
        obtain ⟨y, hy, rfl⟩ := rM_get n L (p :: l) i q hq
        refine ⟨mbr_e7 y.1 n y.2, fun q => ValLaw.paths_ne n y.2 _ (List.map_eq_nil_iff.1 q), y.1, ?_, ?_⟩
        · have hi := (List.getElem?_eq_some_iff.1 hy)
          obtain ⟨hi, he⟩ := hi
          unfold elS
          rw [el_mbr (p :: l) hi, he]
          rfl
        · show LvF (m6 (mbr y.1 (enc n y.2))) _ _
          rw [mbr_m6]
          exact lv_enc n y.2 _ (v5 y (List.mem_of_getElem? hy)) (by rw [List.length_append, List.length_singleton]; omega)
      refine ⟨pathV_p1 _, rfl, rfl, fun hb => ?_, fun cs hcs h1 hn => ?_⟩
      · exact l5n_fn (L := L) (by omega) k f m (bl w) (mbr p.1 (enc n p.2)) (l.map fun p : ValLaw.W × ValLaw.T n => mbr p.1 (enc n p.2)) (by simp at l6 ⊢; omega) (rM n L (p :: l)) (rM_fst n L (p :: l)) hR2 _ (rM_snd n L (p :: l)) hne hb
      · match cs, hcs, h1, hn with
        | c0 :: l0, hcs, _, hn => exact (l5b_fn (L := L) (by omega) k f m (bl w) (mbr p.1 (enc n p.2)) (l.map fun p : ValLaw.W × ValLaw.T n => mbr p.1 (enc n p.2)) (by simp at l6 ⊢; omega) (rM n L (p :: l)) (rM_fst n L (p :: l)) hR2 _ (rM_snd n L (p :: l)) hne c0 l0 hcs hn).mono fun v g ⟨q1, q2⟩ => ⟨by rw [q1, List.length_append], q2⟩
    | x :: l, p :: l', v2, v3, _, _, _, _, _, _ =>
      rcases v2 with q | q
      · rcases v3 with r | r
        · omega
        · cases r
      · cases q
end Go.Proofs.YtmclppkligkooaaGreatDoor
