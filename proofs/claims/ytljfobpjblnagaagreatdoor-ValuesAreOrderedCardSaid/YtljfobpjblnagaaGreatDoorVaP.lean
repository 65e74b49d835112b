/-
  Values near another one: Near by existence: members; the whole.
-/
import Derived.Test.YtljfobpjblnagaaGreatDoorVaO
namespace Go.Proofs.YtljfobpjblnagaaGreatDoor
open Go.Ev Go.RowKit
set_option maxRecDepth 100000

def mbs (m : Nat) (M : List (ValLaw.W × ValLaw.T m)) : List Value := M.map fun p => mbr p.1 (enc m p.2)
def vNs {c : Nat} (ys : List Value) (n i : Int) : List (ValLaw.W × ValLaw.T c) → List Value
  | [] => vNN ys n i
  | _ :: l => vNB ys n i (l.length + 1)
def nNs {c : Nat} (X : Array Value) (e : Int) (ys : List Value) : List (ValLaw.W × ValLaw.T c) → AH
  | [] => nN X e ys
  | p :: l => nB X e ys ((p :: l).flatMap (mE c)) (l.length + 1)
def eNs {c : Nat} : List (ValLaw.W × ValLaw.T c) → List Value
  | [] => [p0V, p1V, p2V, nlV]
  | _ :: l => [p0V, p1V, p2V, .slice (some ⟨3, 0, none⟩) (l.length + 1) (l.length + 1)]
theorem ms_near {zs : List Int} {m c : Nat} {ys : List Value} {i n : Nat} {p : ValLaw.W × ValLaw.T m} {w : ValLaw.T c} {e e1 : Int} (hel : elV ys (i : Int) = mbr p.1 (enc m p.2)) (hi : i < n) (hn : ys.length = n) (hn2 : n ≤ 1000) (h0 : 0 ≤ e) (h1 : e ≤ 900000) (hr1 : nextR (intsV zs) e 4 ≠ 0) (hr2 : nextR (intsV zs) (e + 1) 2 = 0) (hF : NrF (intsV zs) (e + 1 + 1) e1 (enc m p.2) (enc c w))
    (N : Nat) (K : AExit → List Value → AH → Prop) : ∀ P : List (ValLaw.W × ValLaw.T c), P.length ≤ 100 → iterE 1 Tryz.prog 113 [0, 3, 4, 7, 67, 68, 69] [3] [0, 3, 4, 7] [3] (oneLoop (codeOf Tryz.f5) 19) N (vNs ys (n : Int) ((i + 1 : Nat) : Int) (P ++ [(p.1, w)])) (nNs (intsV zs) e1 ys (P ++ [(p.1, w)])) K →
      iterE 1 Tryz.prog 113 [0, 3, 4, 7, 67, 68, 69] [3] [0, 3, 4, 7] [3] (oneLoop (codeOf Tryz.f5) 19) (N + 1) (vNs ys (n : Int) (i : Int) P) (nNs (intsV zs) e ys P) K
  | [], _, hI => by
    obtain ⟨ky, fy, ny, sy, ly, my, hw⟩ := enc_vV c w
    have hcell : (.string (elS ys (i : Int)) :: c6 ky fy ny sy ly my) = mE c (p.1, w) := by
      have : cE c w = c6 ky fy ny sy ly my := by unfold cE; rw [hw]; rfl
      unfold mE elS
      rw [this, hel]
      rfl
    rw [hw] at hF
    have hsp : SpOK (spOr (spNr true (intsV zs) (e + 1 + 1) e1 (enc m p.2) (vV ky fy ny sy ly my)) (spNext [])) := SNr_ok fun _ => ⟨enc_p2 m p.2, rfl, hF⟩
    have hb : (decide (0 ≤ (i : Int)) && decide ((i : Int) < ((Array.mk ys).size : Int)) && Nat.beq (e7 (elV ys (i : Int))).cells.size 7) = true := by
      simp only [Bool.and_eq_true, decide_eq_true_eq]
      exact ⟨⟨by omega, by simp; omega⟩, rfl⟩
    have hself : elV ys (i : Int) = e7 (elV ys (i : Int)) := by rw [hel]; exact mbr_e7 _ _ _
    have e4 : nNs (intsV zs) e1 ys [(p.1, w)] = nB (intsV zs) e1 ys (mE c (p.1, w)) 1 := by
      show nB _ _ _ (mE c (p.1, w) ++ []) 1 = _
      rw [List.append_nil]
    have hI : iterE 1 Tryz.prog 113 [0, 3, 4, 7, 67, 68, 69] [3] [0, 3, 4, 7] [3] (oneLoop (codeOf Tryz.f5) 19) N (vNB ys (n : Int) ((i + 1 : Nat) : Int) 1) (nNs (intsV zs) e1 ys [(p.1, w)]) K := hI
    rw [e4, ← hcell] at hI
    have hnn : NoNames (.cells ⟨(.string (elS ys (i : Int)) :: c6 ky fy ny sy ly my)⟩ 45 (0, 0)) := by
      have := nn_mE c [(p.1, w)] 45
      have e6 : [(p.1, w)].flatMap (mE c) = mE c (p.1, w) := List.append_nil _
      rw [e6, ← hcell] at this
      exact this
    rw [← wrapS (show i ≤ 1000000 by omega)] at hI
    exact ⟨SNr true (intsV zs) (e + 1 + 1) e1 (enc m p.2) (vV ky fy ny sy ly my), [], noHooks, 900, hsp.cfg, loops_none _ _ _ _, (nrMN true (intsV zs) e (e + 1 + 1) e1 (n : Int) (i : Int) (enc m p.2) ys ky fy ny sy ly my _ K).mpr (pick_t (decide_eq_true (by omega)) (need_mk hb ⟨hself, drT_mk h0 (by omega) (pick_f (beq_eq_false_iff_ne.2 hr1) (drT_mk (by omega) (by omega) (pick_t (by rw [hr2]; rfl) (need_mk (nrC_mk rfl (by rw [hel]; exact mbr_m6 p.1 m p.2)) ⟨hnn, hI⟩))))⟩))⟩
  | q :: l, hl, hI => by
    obtain ⟨ky, fy, ny, sy, ly, my, hw⟩ := enc_vV c w
    have hcell : (.string (elS ys (i : Int)) :: c6 ky fy ny sy ly my) = mE c (p.1, w) := by
      have : cE c w = c6 ky fy ny sy ly my := by unfold cE; rw [hw]; rfl
      unfold mE elS
      rw [this, hel]
      rfl
    rw [hw] at hF
    have hsp : SpOK (spOr (spNr true (intsV zs) (e + 1 + 1) e1 (enc m p.2) (vV ky fy ny sy ly my)) (spNext [])) := SNr_ok fun _ => ⟨enc_p2 m p.2, rfl, hF⟩
    have hb : (decide (0 ≤ (i : Int)) && decide ((i : Int) < ((Array.mk ys).size : Int)) && Nat.beq (e7 (elV ys (i : Int))).cells.size 7) = true := by
      simp only [Bool.and_eq_true, decide_eq_true_eq]
      exact ⟨⟨by omega, by simp; omega⟩, rfl⟩
    have hself : elV ys (i : Int) = e7 (elV ys (i : Int)) := by rw [hel]; exact mbr_e7 _ _ _
    have hlen := mE_len c (q :: l)
    have hz : (0 + (l.length + 1) * 7).ble (Array.mk ((q :: l).flatMap (mE c))).size = true := size_le (j := (q :: l).length) hlen
    have e3 : List.take ((l.length + 1) * 7) (List.drop 0 (Array.mk ((q :: l).flatMap (mE c))).toList) ++ (.string (elS ys (i : Int)) :: c6 ky fy ny sy ly my) = ((q :: l) ++ [(p.1, w)]).flatMap (mE c) := by
      rw [hcell, List.drop_zero, List.take_of_length_le (by show ((q :: l).flatMap (mE c)).length ≤ _; rw [hlen]; exact Nat.le_refl _), List.flatMap_append]
      show _ = _ ++ (mE c (p.1, w) ++ [])
      rw [List.append_nil]
    have hnn : NoNames (.cells ⟨List.take ((l.length + 1) * 7) (List.drop 0 (Array.mk ((q :: l).flatMap (mE c))).toList) ++ (.string (elS ys (i : Int)) :: c6 ky fy ny sy ly my)⟩ 45 (0, 0)) := by
      rw [e3]; exact nn_mE c _ _
    have e5 : ((q :: l) ++ [(p.1, w)]).length = l.length + 1 + 1 := by rw [List.length_append]; rfl
    have hI2 : iterE 1 Tryz.prog 113 [0, 3, 4, 7, 67, 68, 69] [3] [0, 3, 4, 7] [3] (oneLoop (codeOf Tryz.f5) 19) N (vNB ys (n : Int) (IntKind.i64.wrap ((i : Int) + 1)) (l.length + 1 + 1)) (nB (intsV zs) e1 ys (List.take ((l.length + 1) * 7) (List.drop 0 (Array.mk ((q :: l).flatMap (mE c))).toList) ++ (.string (elS ys (i : Int)) :: c6 ky fy ny sy ly my)) (l.length + 1 + 1)) K := by
      rw [e3, wrapS (by omega), ← e5]
      exact hI
    have hg : ((l.length + 1 + 1).ble 9223372036854775807 && ((l.length + 1 + 1) * 104).ble 140737488355328) = true := by
      have : (q :: l).length = l.length + 1 := rfl
      rw [Bool.and_eq_true, Nat.ble_eq, Nat.ble_eq]; omega
    exact ⟨SNr true (intsV zs) (e + 1 + 1) e1 (enc m p.2) (vV ky fy ny sy ly my), [], noHooks, 900, hsp.cfg, loops_none _ _ _ _, (nrMB true (intsV zs) e (e + 1 + 1) e1 (n : Int) (i : Int) (enc m p.2) ys ((q :: l).flatMap (mE c)) (l.length + 1) ky fy ny sy ly my _ K).mpr (pick_t (decide_eq_true (by omega)) (need_mk hb ⟨hself, drT_mk h0 (by omega) (pick_f (beq_eq_false_iff_ne.2 hr1) (drT_mk (by omega) (by omega) (pick_t (by rw [hr2]; rfl) (need_mk (nrC_mk rfl (by rw [hel]; exact mbr_m6 p.1 m p.2)) (pick_f (ble_ss _) (need_mk hg (need_mk (by rw [hz]; rfl) ⟨hnn, hI2⟩)))))))⟩))⟩
theorem ms_keep {zs : List Int} {m c : Nat} {ys : List Value} {i n : Nat} {p : ValLaw.W × ValLaw.T m} {w : ValLaw.T c} {e e1 : Int} (hel : elV ys (i : Int) = mbr p.1 (enc m p.2)) (hi : i < n) (hn : ys.length = n) (hn2 : n ≤ 1000) (h0 : 0 ≤ e) (h1 : e ≤ 900000) (hr1 : nextR (intsV zs) e 4 ≠ 0) (hr2 : nextR (intsV zs) (e + 1) 2 ≠ 0) (hw : enc c w = enc m p.2)
    (N : Nat) (K : AExit → List Value → AH → Prop) : ∀ P : List (ValLaw.W × ValLaw.T c), P.length ≤ 100 → iterE 1 Tryz.prog 113 [0, 3, 4, 7, 67, 68, 69] [3] [0, 3, 4, 7] [3] (oneLoop (codeOf Tryz.f5) 19) N (vNs ys (n : Int) ((i + 1 : Nat) : Int) (P ++ [(p.1, w)])) (nNs (intsV zs) (e + 1 + 1) ys (P ++ [(p.1, w)])) K →
      iterE 1 Tryz.prog 113 [0, 3, 4, 7, 67, 68, 69] [3] [0, 3, 4, 7] [3] (oneLoop (codeOf Tryz.f5) 19) (N + 1) (vNs ys (n : Int) (i : Int) P) (nNs (intsV zs) e ys P) K
  | [], _, hI => by
    have hcell : (e7 (elV ys (i : Int))).cells.toList = mE c (p.1, w) := by
      rw [hel, ← mbr_e7]
      unfold mE cE
      rw [hw]
      rfl
    have hsp : SpOK (spOr (spNr false (intsV zs) 0 0 undef (vV 0 false 0 ⟨#[]⟩ [] [])) (spNext [])) := SNr_ok (fun h => Bool.noConfusion h)
    have hb : (decide (0 ≤ (i : Int)) && decide ((i : Int) < ((Array.mk ys).size : Int)) && Nat.beq (e7 (elV ys (i : Int))).cells.size 7) = true := by
      simp only [Bool.and_eq_true, decide_eq_true_eq]
      exact ⟨⟨by omega, by simp; omega⟩, rfl⟩
    have hself : elV ys (i : Int) = e7 (elV ys (i : Int)) := by rw [hel]; exact mbr_e7 _ _ _
    have e4 : nNs (intsV zs) (e + 1 + 1) ys [(p.1, w)] = nB (intsV zs) (e + 1 + 1) ys (mE c (p.1, w)) 1 := by
      show nB _ _ _ (mE c (p.1, w) ++ []) 1 = _
      rw [List.append_nil]
    have hI : iterE 1 Tryz.prog 113 [0, 3, 4, 7, 67, 68, 69] [3] [0, 3, 4, 7] [3] (oneLoop (codeOf Tryz.f5) 19) N (vNB ys (n : Int) ((i + 1 : Nat) : Int) 1) (nNs (intsV zs) (e + 1 + 1) ys [(p.1, w)]) K := hI
    rw [e4, ← hcell] at hI
    have hnn : NoNames (.cells ⟨(e7 (elV ys (i : Int))).cells.toList⟩ 45 (0, 0)) := by
      have := nn_mE c [(p.1, w)] 45
      have e6 : [(p.1, w)].flatMap (mE c) = mE c (p.1, w) := List.append_nil _
      rw [e6, ← hcell] at this
      exact this
    rw [← wrapS (show i ≤ 1000000 by omega)] at hI
    exact ⟨SNr false (intsV zs) 0 0 undef (vV 0 false 0 ⟨#[]⟩ [] []), [], noHooks, 900, hsp.cfg, loops_none _ _ _ _, (nrMN false (intsV zs) e 0 0 (n : Int) (i : Int) undef ys 0 false 0 ⟨#[]⟩ [] [] _ K).mpr (pick_t (decide_eq_true (by omega)) (need_mk hb ⟨hself, drT_mk h0 (by omega) (pick_f (beq_eq_false_iff_ne.2 hr1) (drT_mk (by omega) (by omega) (pick_f (beq_eq_false_iff_ne.2 hr2) ⟨hnn, hI⟩)))⟩))⟩
  | q :: l, hl, hI => by
    have hcell : (e7 (elV ys (i : Int))).cells.toList = mE c (p.1, w) := by
      rw [hel, ← mbr_e7]
      unfold mE cE
      rw [hw]
      rfl
    have hsp : SpOK (spOr (spNr false (intsV zs) 0 0 undef (vV 0 false 0 ⟨#[]⟩ [] [])) (spNext [])) := SNr_ok (fun h => Bool.noConfusion h)
    have hb : (decide (0 ≤ (i : Int)) && decide ((i : Int) < ((Array.mk ys).size : Int)) && Nat.beq (e7 (elV ys (i : Int))).cells.size 7) = true := by
      simp only [Bool.and_eq_true, decide_eq_true_eq]
      exact ⟨⟨by omega, by simp; omega⟩, rfl⟩
    have hself : elV ys (i : Int) = e7 (elV ys (i : Int)) := by rw [hel]; exact mbr_e7 _ _ _
    have hlen := mE_len c (q :: l)
    have hz : (0 + (l.length + 1) * 7).ble (Array.mk ((q :: l).flatMap (mE c))).size = true := size_le (j := (q :: l).length) hlen
    have e3 : List.take ((l.length + 1) * 7) (List.drop 0 (Array.mk ((q :: l).flatMap (mE c))).toList) ++ (e7 (elV ys (i : Int))).cells.toList = ((q :: l) ++ [(p.1, w)]).flatMap (mE c) := by
      rw [hcell, List.drop_zero, List.take_of_length_le (by show ((q :: l).flatMap (mE c)).length ≤ _; rw [hlen]; exact Nat.le_refl _), List.flatMap_append]
      show _ = _ ++ (mE c (p.1, w) ++ [])
      rw [List.append_nil]
    have hnn : NoNames (.cells ⟨List.take ((l.length + 1) * 7) (List.drop 0 (Array.mk ((q :: l).flatMap (mE c))).toList) ++ (e7 (elV ys (i : Int))).cells.toList⟩ 45 (0, 0)) := by
      rw [e3]; exact nn_mE c _ _
    have e5 : ((q :: l) ++ [(p.1, w)]).length = l.length + 1 + 1 := by rw [List.length_append]; rfl
    have hI2 : iterE 1 Tryz.prog 113 [0, 3, 4, 7, 67, 68, 69] [3] [0, 3, 4, 7] [3] (oneLoop (codeOf Tryz.f5) 19) N (vNB ys (n : Int) (IntKind.i64.wrap ((i : Int) + 1)) (l.length + 1 + 1)) (nB (intsV zs) (e + 1 + 1) ys (List.take ((l.length + 1) * 7) (List.drop 0 (Array.mk ((q :: l).flatMap (mE c))).toList) ++ (e7 (elV ys (i : Int))).cells.toList) (l.length + 1 + 1)) K := by
      rw [e3, wrapS (by omega), ← e5]
      exact hI
    have hg : ((l.length + 1 + 1).ble 9223372036854775807 && ((l.length + 1 + 1) * 104).ble 140737488355328) = true := by
      have : (q :: l).length = l.length + 1 := rfl
      rw [Bool.and_eq_true, Nat.ble_eq, Nat.ble_eq]; omega
    exact ⟨SNr false (intsV zs) 0 0 undef (vV 0 false 0 ⟨#[]⟩ [] []), [], noHooks, 900, hsp.cfg, loops_none _ _ _ _, (nrMB false (intsV zs) e 0 0 (n : Int) (i : Int) undef ys ((q :: l).flatMap (mE c)) (l.length + 1) 0 false 0 ⟨#[]⟩ [] [] _ K).mpr (pick_t (decide_eq_true (by omega)) (need_mk hb ⟨hself, drT_mk h0 (by omega) (pick_f (beq_eq_false_iff_ne.2 hr1) (drT_mk (by omega) (by omega) (pick_f (beq_eq_false_iff_ne.2 hr2) (pick_f (ble_ss _) (need_mk hg (need_mk (by rw [hz]; rfl) ⟨hnn, hI2⟩))))))⟩))⟩

theorem ms_skip {zs : List Int} {m c : Nat} {ys : List Value} {i n : Nat} {p : ValLaw.W × ValLaw.T m} {e : Int} (hel : elV ys (i : Int) = mbr p.1 (enc m p.2)) (hi : i < n) (hn : ys.length = n) (hn2 : n ≤ 1000) (h0 : 0 ≤ e) (h1 : e ≤ 900000) (hr1 : nextR (intsV zs) e 4 = 0) (N : Nat) (K : AExit → List Value → AH → Prop) (P : List (ValLaw.W × ValLaw.T c))
    (hI : iterE 1 Tryz.prog 113 [0, 3, 4, 7, 67, 68, 69] [3] [0, 3, 4, 7] [3] (oneLoop (codeOf Tryz.f5) 19) N (vNs ys (n : Int) ((i + 1 : Nat) : Int) P) (nNs (intsV zs) (e + 1) ys P) K) : iterE 1 Tryz.prog 113 [0, 3, 4, 7, 67, 68, 69] [3] [0, 3, 4, 7] [3] (oneLoop (codeOf Tryz.f5) 19) (N + 1) (vNs ys (n : Int) (i : Int) P) (nNs (intsV zs) e ys P) K := by
  have hb : (decide (0 ≤ (i : Int)) && decide ((i : Int) < ((Array.mk ys).size : Int)) && Nat.beq (e7 (elV ys (i : Int))).cells.size 7) = true := by
    simp only [Bool.and_eq_true, decide_eq_true_eq]
    exact ⟨⟨by omega, by simp; omega⟩, rfl⟩
  have hself : elV ys (i : Int) = e7 (elV ys (i : Int)) := by rw [hel]; exact mbr_e7 _ _ _
  rw [← wrapS (show i ≤ 1000000 by omega)] at hI
  match P, hI with
  | [], hI => exact ⟨SNr false (intsV zs) 0 0 undef (vV 0 false 0 ⟨#[]⟩ [] []), [], noHooks, 900, (SNr_ok (ok := false) (fun h => Bool.noConfusion h)).cfg, loops_none _ _ _ _, (nrMN false (intsV zs) e 0 0 (n : Int) (i : Int) undef ys 0 false 0 ⟨#[]⟩ [] [] _ K).mpr (pick_t (decide_eq_true (by omega)) (need_mk hb ⟨hself, drT_mk h0 (by omega) (pick_t (by rw [hr1]; rfl) hI)⟩))⟩
  | q :: l, hI => exact ⟨SNr false (intsV zs) 0 0 undef (vV 0 false 0 ⟨#[]⟩ [] []), [], noHooks, 900, (SNr_ok (ok := false) (fun h => Bool.noConfusion h)).cfg, loops_none _ _ _ _, (nrMB false (intsV zs) e 0 0 (n : Int) (i : Int) undef ys ((q :: l).flatMap (mE c)) (l.length + 1) 0 false 0 ⟨#[]⟩ [] [] _ K).mpr (pick_t (decide_eq_true (by omega)) (need_mk hb ⟨hself, drT_mk h0 (by omega) (pick_t (by rw [hr1]; rfl) ⟨nn_mE c _ _, hI⟩)⟩))⟩
theorem ms_end {zs : List Int} {c : Nat} {ys : List Value} {n : Nat} {e : Int} (N : Nat) (K : AExit → List Value → AH → Prop) (P : List (ValLaw.W × ValLaw.T c)) (hK : K (.exit 4) (eNs P) (nNs (intsV zs) e ys P)) :
    iterE 1 Tryz.prog 113 [0, 3, 4, 7, 67, 68, 69] [3] [0, 3, 4, 7] [3] (oneLoop (codeOf Tryz.f5) 19) (N + 1) (vNs ys (n : Int) (n : Int) P) (nNs (intsV zs) e ys P) K := match P, hK with
  | [], hK => ⟨SNr false (intsV zs) 0 0 undef (vV 0 false 0 ⟨#[]⟩ [] []), [], noHooks, 900, (SNr_ok (ok := false) (fun h => Bool.noConfusion h)).cfg, loops_none _ _ _ _, (nrMN false (intsV zs) e 0 0 (n : Int) (n : Int) undef ys 0 false 0 ⟨#[]⟩ [] [] _ K).mpr (pick_f (decide_eq_false (by omega)) hK)⟩
  | q :: l, hK => ⟨SNr false (intsV zs) 0 0 undef (vV 0 false 0 ⟨#[]⟩ [] []), [], noHooks, 900, (SNr_ok (ok := false) (fun h => Bool.noConfusion h)).cfg, loops_none _ _ _ _, (nrMB false (intsV zs) e 0 0 (n : Int) (n : Int) undef ys ((q :: l).flatMap (mE c)) (l.length + 1) 0 false 0 ⟨#[]⟩ [] [] _ K).mpr (pick_f (decide_eq_false (by omega)) ⟨nn_mE c _ _, hK⟩)⟩
/-- What the values in it come to. -/
def KidOK (zs : List Int) (m c B : Nat) (x : ValLaw.T m) : Prop := (∃ w : ValLaw.T c, ValLaw.GV c w ∧ enc c w = enc m x) ∧
  ∀ e : Int, 0 ≤ e → e + (B : Int) ≤ 900000 → ∃ (w : ValLaw.T c) (e' : Int), ValLaw.GV c w ∧ e ≤ e' ∧ e' ≤ e + (B : Int) ∧ NrF (intsV zs) e e' (enc m x) (enc c w)
theorem ms_loop {zs : List Int} {m c B : Nat} (M : List (ValLaw.W × ValLaw.T m)) (hM2 : M.length ≤ 7) : ∀ (R : List (ValLaw.W × ValLaw.T m)) (i : Nat) (P : List (ValLaw.W × ValLaw.T c)) (e : Int), M.drop i = R → i + R.length = M.length → (∀ p ∈ R, KidOK zs m c B p.2) → (P.map (fun q : ValLaw.W × ValLaw.T c => q.1) ++ R.map (fun q : ValLaw.W × ValLaw.T m => q.1)).Sublist ValLaw.names6 → (∀ p ∈ P, ValLaw.GV c p.2) → 0 ≤ e → e + (R.length : Int) * (2 + (B : Int)) ≤ 900000 →
    ∃ (P' : List (ValLaw.W × ValLaw.T c)) (e' : Int), (P'.map (·.1)).Sublist ValLaw.names6 ∧ (∀ p ∈ P', ValLaw.GV c p.2) ∧ e ≤ e' ∧ e' ≤ e + (R.length : Int) * (2 + (B : Int)) ∧ ∀ K, K (.exit 4) (eNs P') (nNs (intsV zs) e' (mbs m M) P') →
      iterE 1 Tryz.prog 113 [0, 3, 4, 7, 67, 68, 69] [3] [0, 3, 4, 7] [3] (oneLoop (codeOf Tryz.f5) 19) (R.length + 1) (vNs (mbs m M) (M.length : Int) (i : Int) P) (nNs (intsV zs) e (mbs m M) P) K
  | [], i, P, e, h1, h2, h3, h4, h5, h6, h7 => by
    obtain rfl : i = M.length := by simpa using h2
    have h4 : (P.map (fun q : ValLaw.W × ValLaw.T c => q.1) ++ []).Sublist ValLaw.names6 := h4
    rw [List.append_nil] at h4
    exact ⟨P, e, h4, h5, by omega, by simp, fun K hK => ms_end 0 K P hK⟩
  | p :: R, i, P, e, h1, h2, h3, h4, h5, h6, h7 => by
    have h2 : i + (R.length + 1) = M.length := h2
    have hpr : (0 : Int) ≤ (R.length : Int) * (2 + (B : Int)) := Int.mul_nonneg (by omega) (by omega)
    have el : (((p :: R).length : Nat) : Int) * (2 + (B : Int)) = (R.length : Int) * (2 + (B : Int)) + (2 + (B : Int)) := by
      rw [List.length_cons, Int.natCast_add, Int.add_mul]; omega
    rw [el] at h7
    have hip : M[i]? = some p := by rw [← List.head?_drop, h1]; rfl
    have hel : elV (mbs m M) (i : Int) = mbr p.1 (enc m p.2) := by
      show (M.map fun p => mbr p.1 (enc m p.2)).getD i _ = _
      rw [List.getD_eq_getElem?_getD, List.getElem?_map, hip]; rfl
    have hdr : M.drop (i + 1) = R := by rw [← List.drop_drop, h1]; rfl
    have hlen : (mbs m M).length = M.length := List.length_map ..
    have hP : P.length ≤ 100 := by
      have := h4.length_le
      rw [List.length_append, List.length_map, List.length_map] at this
      have l6 : ValLaw.names6.length = 6 := rfl
      omega
    have hR3 : ∀ q ∈ R, KidOK zs m c B q.2 := fun q hq => h3 q (by simp [hq])
    have app : ∀ w : ValLaw.T c, ValLaw.GV c w → ((P ++ [(p.1, w)]).map (fun q : ValLaw.W × ValLaw.T c => q.1) ++ R.map (fun q : ValLaw.W × ValLaw.T m => q.1)).Sublist ValLaw.names6 ∧ ∀ q ∈ P ++ [(p.1, w)], ValLaw.GV c q.2 := fun w hw => by
      refine ⟨?_, fun q hq => ?_⟩
      · rw [List.map_append, List.append_assoc]
        exact h4
      · rcases List.mem_append.1 hq with hq | hq
        · exact h5 q hq
        · rw [List.mem_singleton.1 hq]; exact hw
    by_cases hr1 : nextR (intsV zs) e 4 = 0
    · obtain ⟨P', e', a1, a2, a3, a4, a5⟩ := ms_loop M hM2 R (i + 1) P (e + 1) hdr (by omega) hR3 (((List.Sublist.refl _).append (List.sublist_cons_self _ _)).trans h4) h5 (by omega) (by omega)
      exact ⟨P', e', a1, a2, by omega, by rw [el]; omega, fun K hK => ms_skip hel (by omega) hlen (by omega) h6 (by omega) hr1 (R.length + 1) K P (a5 K hK)⟩
    · obtain ⟨⟨w0, g0, g1⟩, hnear⟩ := h3 p (by simp)
      by_cases hr2 : nextR (intsV zs) (e + 1) 2 = 0
      · obtain ⟨w, e1, b1, b2, b3, b4⟩ := hnear (e + 1 + 1) (by omega) (by omega)
        obtain ⟨c1, c2⟩ := app w b1
        obtain ⟨P', e', a1, a2, a3, a4, a5⟩ := ms_loop M hM2 R (i + 1) (P ++ [(p.1, w)]) e1 hdr (by omega) hR3 c1 c2 (by omega) (by omega)
        exact ⟨P', e', a1, a2, by omega, by rw [el]; omega, fun K hK => ms_near hel (by omega) hlen (by omega) h6 (by omega) hr1 hr2 b4 (R.length + 1) K P hP (a5 K hK)⟩
      · obtain ⟨c1, c2⟩ := app w0 g0
        obtain ⟨P', e', a1, a2, a3, a4, a5⟩ := ms_loop M hM2 R (i + 1) (P ++ [(p.1, w0)]) (e + 1 + 1) hdr (by omega) hR3 c1 c2 (by omega) (by omega)
        exact ⟨P', e', a1, a2, by omega, by rw [el]; omega, fun K hK => ms_keep (e1 := 0) hel (by omega) hlen (by omega) h6 (by omega) hr1 hr2 g1 (R.length + 1) K P hP (a5 K hK)⟩
theorem chunk_mE (c : Nat) : ∀ L : List (ValLaw.W × ValLaw.T c), chunk true 7 L.length (L.flatMap (mE c)) = mbs c L
  | [] => rfl
  | p :: l => by
    have h7 := mE_seven c p
    show .agg ⟨List.take 7 (mE c p ++ l.flatMap (mE c))⟩ :: chunk true 7 l.length (List.drop 7 (mE c p ++ l.flatMap (mE c))) = mbr p.1 (enc c p.2) :: mbs c l
    have e1 : List.take 7 (mE c p ++ l.flatMap (mE c)) = mE c p := by rw [← h7]; exact List.take_left ..
    have e2 : List.drop 7 (mE c p ++ l.flatMap (mE c)) = l.flatMap (mE c) := by rw [← h7]; exact List.drop_left ..
    rw [e1, e2, chunk_mE c l]
    rfl
theorem gh28 : LoopsOK 1 Tryz.prog 113 (ghost1 28 (freezeH 3 5 true 7)) (codeOf Tryz.f5) := ghosts_one (by kernel_rfl) (freezeH_ok _ _ _ _ _ _ _)
theorem frz_mk {c j : Nat} {cs : List Value} {L : List (ValLaw.W × ValLaw.T c)} (hj : L.length = j) (hcs : cs = L.flatMap (mE c)) : (!(Nat.beq 1 3) && cs.all p1 && Nat.ble j j && Nat.ble (j * 7) (Array.mk cs).size && cond true (Nat.blt 0 7) (Nat.beq 7 1)) = true := by
  subst hcs hj
  have h1 : (L.flatMap (mE c)).all p1 = true := List.all_eq_true.2 (mE_p1 c L)
  have h2 : Nat.ble (L.length * 7) (Array.mk (L.flatMap (mE c))).size = true := by rw [Nat.ble_eq]; show _ ≤ (L.flatMap (mE c)).length; rw [mE_len]; exact Nat.le_refl _
  rw [h1, h2, Nat.ble_eq_true_of_le (Nat.le_refl _)]
  rfl
theorem nr_mem {zs : List Int} (H2 : RvEx zs 2) (H1 : RvEx zs 1) {m c B : Nat} (hc : ∀ x : ValLaw.T 1, ValLaw.GR 1 x → ∃ w : ValLaw.T c, ValLaw.GV c w ∧ enc c w = enc 1 x) (M : List (ValLaw.W × ValLaw.T m)) (hM : (M.map (·.1)).Sublist ValLaw.names6) (hK : ∀ p ∈ M, KidOK zs m c B p.2) {e : Int} (h0 : 0 ≤ e) (h1 : e + 7 * (2 + (B : Int)) + 1000 ≤ 900000) :
    ∃ (y : Value) (e' : Int), ((∃ x : ValLaw.T 2, ValLaw.GR 2 x ∧ y = enc 2 x) ∨ ∃ P : List (ValLaw.W × ValLaw.T c), (P.map (·.1)).Sublist ValLaw.namesU ∧ (∀ p ∈ P, ValLaw.GV c p.2) ∧ y = vV 5 false 0 ⟨#[]⟩ [] (mbs c P)) ∧ e ≤ e' ∧ e' ≤ e + 7 * (2 + (B : Int)) + 1000 ∧ NrF (intsV zs) e e' (vV 5 false 0 ⟨#[]⟩ [] (mbs m M)) y := by
  have hM6 : M.length ≤ 6 := by have := hM.length_le; rw [List.length_map] at this; exact this
  have hBn : (M.length : Int) * (2 + (B : Int)) ≤ 6 * (2 + (B : Int)) := Int.mul_le_mul_of_nonneg_right (by omega) (by omega)
  obtain ⟨P, d, p1, p2, d1, d2, hl⟩ := ms_loop (zs := zs) (c := c) (B := B) M (by omega) M 0 [] (e + 1) rfl (by omega) hK hM (fun p hp => by cases hp) (by omega) (by omega)
  have hsz : ((Array.mk (mbs m M)).size : Int) = (M.length : Int) := by
    show (((mbs m M).length : Nat) : Int) = _
    rw [show (mbs m M).length = M.length from List.length_map ..]
  have e570 : mR 2 = 570 := rfl
  have e80 : mR 1 = 80 := rfl
  have zsub : ∀ (x : ValLaw.T c), ((P ++ [(([122] : ValLaw.W), x)]).map (fun q : ValLaw.W × ValLaw.T c => q.1)).Sublist ValLaw.namesU := fun x => by
    rw [List.map_append]
    exact p1.append (List.Sublist.refl [([122] : List UInt8)])
  have zall : ∀ (x : ValLaw.T c), ValLaw.GV c x → ∀ q ∈ P ++ [(([122] : ValLaw.W), x)], ValLaw.GV c q.2 := fun x hx q hq => by
    rcases List.mem_append.1 hq with hq | hq
    · exact p2 q hq
    · rw [List.mem_singleton.1 hq]; exact hx
  match P, p1, p2, hl, zsub, zall with
  | [], p1, p2, hl, zsub, zall =>
    have hA : LSpec 1 Tryz.prog 113 (oneLoop (codeOf Tryz.f5) 19) (hookLS 1 113 [0, 3, 4, 7, 67, 68, 69] [3] [0, 3, 4, 7] (fun vals h K => (vals = vNN (mbs m M) ((Array.mk (mbs m M)).size : Int) 0 ∧ h = nN (intsV zs) (e + 1) (mbs m M)) ∧ K (.exit 4) [p0V, p1V, p2V, nlV] (nN (intsV zs) d (mbs m M)))) := by
      refine hookE_ok (sameX := [3]) mixed (by decide) ?_
      rintro vals h K ⟨⟨rfl, rfl⟩, hK⟩
      rw [hsz]
      exact ⟨_, hl K hK⟩
    have hG := loops_or (loops_one oneNR19 hA) gh28
    by_cases hr : nextR (intsV zs) e 3 = 0
    · obtain ⟨x, e', b1, b2, b3, b4⟩ := H2 (e + 1) (by omega) (by omega)
      obtain ⟨ka, fa, na, sa, la, ma, hx⟩ := enc_vV 2 x
      rw [hx] at b4
      refine ⟨vV ka fa na sa la ma, e', .inl ⟨x, b1, hx.symm⟩, by omega, by omega, ?_⟩
      have e0 := nh5_n (intsV zs) true false e d (e + 1) e' 0 0 ka fa na sa la ma 0 false 0 ⟨#[]⟩ [] [] (mbs m M) (fun vals h => vals = vNN (mbs m M) ((Array.mk (mbs m M)).size : Int) 0 ∧ h = nN (intsV zs) (e + 1) (mbs m M)) (fun v o => v = vV ka fa na sa la ma ∧ o = some (strm (intsV zs) e'))
      exact FnOK.ttree (SRw_ok (fun _ => ⟨rfl, b4⟩) (fun h => Bool.noConfusion h)).cfg mixed Tryz.func5 someNR hG e0 (drT_mk h0 (by omega) (pick_t (by rw [hr]; rfl) (need_mk (rwC_mk rfl) ⟨rfl, rfl⟩)))
    · obtain ⟨x, e', b1, b2, b3, b4⟩ := H1 d (by omega) (by omega)
      obtain ⟨x', q1, q2⟩ := hc x b1
      obtain ⟨kb, fb, nb, sb, lb, mb, hx⟩ := enc_vV 1 x
      rw [hx] at b4 q2
      refine ⟨vV 5 false 0 ⟨#[]⟩ [] [mbr [122] (vV kb fb nb sb lb mb)], e', .inr ⟨[([122], x')], zsub x', zall x' q1, by rw [← q2]; rfl⟩, by omega, by omega, ?_⟩
      have e0 := nh5_n (intsV zs) false true e d 0 0 d e' 0 false 0 ⟨#[]⟩ [] [] kb fb nb sb lb mb (mbs m M) (fun vals h => vals = vNN (mbs m M) ((Array.mk (mbs m M)).size : Int) 0 ∧ h = nN (intsV zs) (e + 1) (mbs m M)) (fun v o => v = vV 5 false 0 ⟨#[]⟩ [] [mbr [122] (vV kb fb nb sb lb mb)] ∧ o = some (strm (intsV zs) e'))
      exact FnOK.ttree (SRw_ok (fun h => Bool.noConfusion h) (fun _ => ⟨rfl, b4⟩)).cfg mixed Tryz.func5 someNR hG e0 (drT_mk h0 (by omega) (pick_f (beq_eq_false_iff_ne.2 hr) ⟨⟨rfl, rfl⟩, need_mk (rwC_mk rfl) ⟨rfl, rfl⟩⟩))
  | q :: l, p1, p2, hl, zsub, zall =>
    have hW : Weak 1 Tryz.prog ⟨expand 113 [0, 3, 4, 7] [p0V, p1V, p2V, .slice (some ⟨3, 0, none⟩) (l.length + 1) (l.length + 1)]⟩ (nB (intsV zs) d (mbs m M) ((q :: l).flatMap (mE c)) (l.length + 1)) ⟨expand 113 [0, 3, 4, 7] [p0V, p1V, p2V, .slice (some ⟨3, 0, none⟩) (l.length + 1) (l.length + 1)]⟩ (nBm (intsV zs) d (mbs m M) ((q :: l).flatMap (mE c))) :=
      Weak.mark (g := 3) (h := nB (intsV zs) d (mbs m M) ((q :: l).flatMap (mE c)) (l.length + 1)) (c := ⟨(q :: l).flatMap (mE c)⟩) (t := 45) 0 1 rfl
    have hA : LSpec 1 Tryz.prog 113 (oneLoop (codeOf Tryz.f5) 19) (hookLS 1 113 [0, 3, 4, 7, 67, 68, 69] [3] [0, 3, 4, 7] (fun vals h K => (vals = vNN (mbs m M) ((Array.mk (mbs m M)).size : Int) 0 ∧ h = nN (intsV zs) (e + 1) (mbs m M)) ∧ K (.exit 4) [p0V, p1V, p2V, .slice (some ⟨3, 0, none⟩) (l.length + 1) (l.length + 1)] (nBm (intsV zs) d (mbs m M) ((q :: l).flatMap (mE c))))) := by
      refine hookW_ok (sameX := [3]) mixed (by decide) ?_
      rintro vals h K ⟨⟨rfl, rfl⟩, hK⟩
      rw [hsz]
      exact ⟨_, hl _ ⟨_, _, hW, hK⟩⟩
    have hG := loops_or (loops_one oneNR19 hA) gh28
    by_cases hr : nextR (intsV zs) e 3 = 0
    · obtain ⟨x, e', b1, b2, b3, b4⟩ := H2 (e + 1) (by omega) (by omega)
      obtain ⟨ka, fa, na, sa, la, ma, hx⟩ := enc_vV 2 x
      rw [hx] at b4
      refine ⟨vV ka fa na sa la ma, e', .inl ⟨x, b1, hx.symm⟩, by omega, by omega, ?_⟩
      have e0 := nh5_b (intsV zs) true false e d (e + 1) e' 0 0 ka fa na sa la ma 0 false 0 ⟨#[]⟩ [] [] (mbs m M) ((q :: l).flatMap (mE c)) l.length (fun vals h => vals = vNN (mbs m M) ((Array.mk (mbs m M)).size : Int) 0 ∧ h = nN (intsV zs) (e + 1) (mbs m M)) (fun v o => v = vV ka fa na sa la ma ∧ o = some (strm (intsV zs) e'))
      exact FnOK.ttree (SRw_ok (fun _ => ⟨rfl, b4⟩) (fun h => Bool.noConfusion h)).cfg mixed Tryz.func5 someNR hG e0 (drT_mk h0 (by omega) (pick_t (by rw [hr]; rfl) (need_mk (rwC_mk rfl) ⟨rfl, rfl⟩)))
    · have hlen := mE_len c (q :: l)
      have hl7 : (q :: l).length ≤ 6 := by have := p1.length_le; rw [List.length_map] at this; exact this
      have hll : (q :: l).length = l.length + 1 := rfl
      have w1 : IntKind.i64.wrap (((l.length + 1 : Nat) : Int) - 1) = (l.length : Int) := by rw [wrap_id _ (by omega) (by omega)]; omega
      obtain ⟨nm, hnm⟩ : ∃ nm : ByteArray, (Array.mk ((q :: l).flatMap (mE c))).toList.getD (0 + ((l.length : Int)).toNat * 7) undef = .string nm := by
        have hlt : l.length < (q :: l).length := by omega
        have := flat_get (f := mE c) (w := 7) (mE_seven c) (L := q :: l) (i := l.length) (j := 0) (x := (q :: l)[l.length]) (v := .string (bl ((q :: l)[l.length]).1)) (List.getElem?_eq_getElem hlt) rfl
        refine ⟨bl ((q :: l)[l.length]).1, ?_⟩
        rw [List.getD_eq_getElem?_getD]
        have e9 : (0 : Nat) + ((l.length : Int)).toNat * 7 = l.length * 7 + 0 := by rw [Int.toNat_natCast]; omega
        rw [e9]
        show ((q :: l).flatMap (mE c))[l.length * 7 + 0]?.getD undef = _
        rw [this]; rfl
      have hsize : (Array.mk ((q :: l).flatMap (mE c))).size = (q :: l).length * 7 := hlen
      have hblt : Nat.blt (0 + ((l.length : Int)).toNat * 7) (Array.mk ((q :: l).flatMap (mE c))).size = true := by
        rw [hsize, Nat.blt, Nat.ble_eq, Int.toNat_natCast]; omega
      -- nothing more
      have keep : ∀ e2 : Int, bif !(Nat.beq 1 3) && ((q :: l).flatMap (mE c)).all Go.Ev.p1 && Nat.ble (l.length + 1) (l.length + 1) && Nat.ble ((l.length + 1) * 7) (Array.mk ((q :: l).flatMap (mE c))).size && cond true (Nat.blt 0 7) (Nat.beq 7 1) then (fun (v : Value) (o : Option Obj) => v = vV 5 false 0 ⟨#[]⟩ [] (mbs c (q :: l)) ∧ o = some (strm (intsV zs) e2)) (.agg ⟨c6 5 false 0 ⟨#[]⟩ [] (chunk true 7 (l.length + 1) ((q :: l).flatMap (mE c)))⟩) (some (strm (intsV zs) e2)) else False := fun e2 => by
        refine need_mk (frz_mk (L := q :: l) rfl rfl) ⟨?_, rfl⟩
        rw [show chunk true 7 (l.length + 1) ((q :: l).flatMap (mE c)) = mbs c (q :: l) from chunk_mE c (q :: l)]
        rfl
      have sub7 : ((q :: l).map (·.1)).Sublist ValLaw.namesU := p1.trans (by decide)
      by_cases hz : Op.bytesLess nm.toList (⟨#[122]⟩ : ByteArray).toList = true
      · by_cases hr2 : nextR (intsV zs) d 3 = 0
        · obtain ⟨x, e', b1, b2, b3, b4⟩ := H1 (d + 1) (by omega) (by omega)
          obtain ⟨x', q1, q2⟩ := hc x b1
          obtain ⟨kb, fb, nb, sb, lb, mb, hx⟩ := enc_vV 1 x
          rw [hx] at b4 q2
          refine ⟨vV 5 false 0 ⟨#[]⟩ [] (mbs c (q :: l) ++ [mbr [122] (vV kb fb nb sb lb mb)]), e', .inr ⟨q :: l ++ [([122], x')], zsub x', zall x' q1, ?_⟩, by omega, by omega, ?_⟩
          · unfold mbs
            rw [List.map_append, ← q2]
            rfl
          · have e0 := nh5_b (intsV zs) false true e d 0 0 (d + 1) e' 0 false 0 ⟨#[]⟩ [] [] kb fb nb sb lb mb (mbs m M) ((q :: l).flatMap (mE c)) l.length (fun vals h => vals = vNN (mbs m M) ((Array.mk (mbs m M)).size : Int) 0 ∧ h = nN (intsV zs) (e + 1) (mbs m M)) (fun v o => v = vV 5 false 0 ⟨#[]⟩ [] (mbs c (q :: l) ++ [mbr [122] (vV kb fb nb sb lb mb)]) ∧ o = some (strm (intsV zs) e'))
            refine FnOK.ttree (SRw_ok (fun h => Bool.noConfusion h) (fun _ => ⟨rfl, b4⟩)).cfg mixed Tryz.func5 someNR hG e0 (drT_mk h0 (by omega) (pick_f (beq_eq_false_iff_ne.2 hr) ⟨⟨rfl, rfl⟩, ?_⟩))
            rw [w1, hnm]
            refine need_mk (by simp; omega) (need_mk hblt ⟨rfl, pick_t hz (drT_mk (by omega) (by omega) (pick_t (by rw [hr2]; rfl) (need_mk (rwC_mk rfl) (pick_f (ble_ss _) (need_mk (by rw [Bool.and_eq_true, Nat.ble_eq, Nat.ble_eq]; omega) (need_mk ?_ ?_))))))⟩)
            · rw [show (0 + (l.length + 1) * 7).ble (Array.mk ((q :: l).flatMap (mE c))).size = true from size_le (j := (q :: l).length) hlen]; rfl
            · have hcz : (.string ⟨#[122]⟩ :: c6 kb fb nb sb lb mb) = mE c ([122], x') := by
                unfold mE cE
                rw [q2]
                rfl
              have e3 : List.take ((l.length + 1) * 7) (List.drop 0 (Array.mk ((q :: l).flatMap (mE c))).toList) ++ (.string ⟨#[122]⟩ :: c6 kb fb nb sb lb mb) = ((q :: l) ++ [([122], x')]).flatMap (mE c) := by
                rw [hcz, List.drop_zero, List.take_of_length_le (by show ((q :: l).flatMap (mE c)).length ≤ _; rw [hlen]; exact Nat.le_refl _), List.flatMap_append]
                show _ = _ ++ (mE c ([122], x') ++ [])
                rw [List.append_nil]
              rw [e3]
              have e5 : ((q :: l) ++ [(([122] : ValLaw.W), x')]).length = l.length + 1 + 1 := by rw [List.length_append]; rfl
              refine need_mk (frz_mk (L := (q :: l) ++ [(([122] : ValLaw.W), x')]) e5 rfl) ⟨?_, rfl⟩
              rw [← e5, chunk_mE c]
              unfold mbs
              rw [List.map_append, ← q2]
              rfl
        · refine ⟨vV 5 false 0 ⟨#[]⟩ [] (mbs c (q :: l)), d + 1, .inr ⟨q :: l, sub7, p2, rfl⟩, by omega, by omega, ?_⟩
          have e0 := nh5_b (intsV zs) false false e d 0 0 0 0 0 false 0 ⟨#[]⟩ [] [] 0 false 0 ⟨#[]⟩ [] [] (mbs m M) ((q :: l).flatMap (mE c)) l.length (fun vals h => vals = vNN (mbs m M) ((Array.mk (mbs m M)).size : Int) 0 ∧ h = nN (intsV zs) (e + 1) (mbs m M)) (fun v o => v = vV 5 false 0 ⟨#[]⟩ [] (mbs c (q :: l)) ∧ o = some (strm (intsV zs) (d + 1)))
          refine FnOK.ttree (SRw_ok (fun h => Bool.noConfusion h) (fun h => Bool.noConfusion h)).cfg mixed Tryz.func5 someNR hG e0 (drT_mk h0 (by omega) (pick_f (beq_eq_false_iff_ne.2 hr) ⟨⟨rfl, rfl⟩, ?_⟩))
          rw [w1, hnm]
          exact need_mk (by simp; omega) (need_mk hblt ⟨rfl, pick_t hz (drT_mk (by omega) (by omega) (pick_f (beq_eq_false_iff_ne.2 hr2) (keep (d + 1))))⟩)
      · refine ⟨vV 5 false 0 ⟨#[]⟩ [] (mbs c (q :: l)), d, .inr ⟨q :: l, sub7, p2, rfl⟩, by omega, by omega, ?_⟩
        have e0 := nh5_b (intsV zs) false false e d 0 0 0 0 0 false 0 ⟨#[]⟩ [] [] 0 false 0 ⟨#[]⟩ [] [] (mbs m M) ((q :: l).flatMap (mE c)) l.length (fun vals h => vals = vNN (mbs m M) ((Array.mk (mbs m M)).size : Int) 0 ∧ h = nN (intsV zs) (e + 1) (mbs m M)) (fun v o => v = vV 5 false 0 ⟨#[]⟩ [] (mbs c (q :: l)) ∧ o = some (strm (intsV zs) d))
        refine FnOK.ttree (SRw_ok (fun h => Bool.noConfusion h) (fun h => Bool.noConfusion h)).cfg mixed Tryz.func5 someNR hG e0 (drT_mk h0 (by omega) (pick_f (beq_eq_false_iff_ne.2 hr) ⟨⟨rfl, rfl⟩, ?_⟩))
        rw [w1, hnm]
        exact need_mk (by simp; omega) (need_mk hblt ⟨rfl, pick_f (Bool.eq_false_iff.2 hz) (keep d)⟩)
end Go.Proofs.YtljfobpjblnagaaGreatDoor
