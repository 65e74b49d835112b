/-
  Paths to leaves: leaves collects the paths to all leaves.
-/
import Derived.Test.YtmclppkligkooaaGreatDoorLvC
namespace Go.Proofs.YtmclppkligkooaaGreatDoor
open Go.Ev Go.RowKit
set_option maxRecDepth 20000

theorem nn_box (k : Int) (f : Bool) (n : Int) (s : ByteArray) (xs ys : List Value) : NoNames (bO k f n s xs ys) := nnX k f n s xs ys
theorem no_sbl (P s q x : Value) (ts : List Value) : SpOK (spOr (spBp false P s q) (spLv false x q ts)) := (no_bp P s q).or (no_lv x q ts)
def oV : List Value → Value
  | [] => nlV
  | _ :: l => slV (l.length + 1)
def oP : List Value → Value
  | [] => p0V
  | _ :: _ => p1V
def lVs (P : Value) (zs : List Value) (i : Int) (cs : List Value) : List Value := [oV cs, P, oP cs, fz ⟨zs⟩, .int .i64 (zs.length : Int), .int .i64 i]
def lHs (k : Int) (f : Bool) (n : Int) (s : ByteArray) (xs ys : List Value) : List Value → AH
  | [] => lN k f n s xs ys
  | c :: l => lB k f n s xs ys (c :: l) (l.length + 1)
def mVs (P : Value) (zs : List Value) (i : Int) (cs : List Value) : List Value := [oV cs, P, fz ⟨zs⟩, .int .i64 (zs.length : Int), .int .i64 i]
def mHs : List Value → AH
  | [] => h0
  | c :: l => oB (c :: l) (l.length + 1)
theorem h5b {c : Value} {l ts : List Value} {r : Nat} (h : (c :: l).length + (ts.length + r) ≤ 5000) : l.length + 1 + ts.length ≤ 5000 := by
  have : (c :: l).length = l.length + 1 := rfl
  omega
theorem l1_loop {L : List ValLaw.Stp} (hL : L.length ≤ 2) {k0 : Int} {f0 : Bool} {n0 : Int} {s0 : ByteArray} {xs ys : List Value} (K : AExit → List Value → AH → Prop) (zs : List Value) (hlz : zs.length ≤ 5000) : ∀ (R : List (Value × List Value)) (i : Nat) (cs : List Value), zs.drop i = R.map (·.1) → i + R.length = zs.length → (∀ (k : Nat) (p : Value × List Value), R[k]? = some p → p.1 = e6 p.1 ∧ p.2 ≠ [] ∧ LvF p.1 (pathV (L ++ [(false, [], ((i + k : Nat) : Int))])) p.2) → cs.all p1 = true → cs.length + (R.flatMap (·.2)).length ≤ 5000 →
    K (.exit 0) [oV (cs ++ R.flatMap (·.2)), pathV L, oP (cs ++ R.flatMap (·.2))] (lHs k0 f0 n0 s0 xs ys (cs ++ R.flatMap (·.2))) → iterE 0 Tryz.prog 60 [0, 2, 4, 27, 28, 29] [0] [0, 2, 4] [0] (oneLoop (codeOf Tryz.f16) 4) (R.length + 1) (lVs (pathV L) zs (i : Int) cs) (lHs k0 f0 n0 s0 xs ys cs) K
  | [], i, cs, h1, h2, h3, h4, h5, hK => by
    have e1 : cs ++ (([] : List (Value × List Value)).flatMap (·.2)) = cs := List.append_nil _
    rw [e1] at hK
    match cs, h4, hK with
    | [], h4, hK =>
      refine ⟨SBL false (pathV L) (siV (i : Int)) (pathV (L ++ [(false, [], 0)])) undef [], [], noHooks, 900, (no_sbl _ _ _ _ _).cfg, loops_none _ _ _ _, ?_⟩
      have e := fun B => lv1n false (L.map stepV) ((L ++ [(false, [], 0)]).map stepV) undef [] k0 f0 n0 s0 xs ys zs (zs.length : Int) (i : Int) B K
      refine (e _).mpr ?_
      exact pick_f (decide_eq_false (by simp at h2; omega)) ⟨nn_box _ _ _ _ _ _, hK⟩
    | c :: l, h4, hK =>
      refine ⟨SBL false (pathV L) (siV (i : Int)) (pathV (L ++ [(false, [], 0)])) undef [], [], noHooks, 900, (no_sbl _ _ _ _ _).cfg, loops_none _ _ _ _, ?_⟩
      have e := fun B => lv1b false (L.map stepV) ((L ++ [(false, [], 0)]).map stepV) undef [] k0 f0 n0 s0 xs ys zs (c :: l) (l.length + 1) (zs.length : Int) (i : Int) B K
      refine (e _).mpr ?_
      exact pick_f (decide_eq_false (by simp at h2; omega)) ⟨nn_al h4, hK⟩
  | (x, ts) :: R, i, cs, h1, h2, h3, h4, h5, hK => by
    have h2 : i + (R.length + 1) = zs.length := h2
    have ex := elV_at h1
    have hx := h3 0 (x, ts) rfl
    have hb : (decide (0 ≤ (i : Int)) && decide ((i : Int) < ((Array.mk zs).size : Int)) && Nat.beq (e6 (elV zs (i : Int))).cells.size 6) = true := by
      simp only [Bool.and_eq_true, decide_eq_true_eq]
      exact ⟨⟨by omega, by simp; omega⟩, rfl⟩
    have efm : ((x, ts) :: R).flatMap (·.2) = ts ++ R.flatMap (·.2) := rfl
    rw [efm, List.length_append] at h5
    rw [efm, ← List.append_assoc] at hK
    obtain ⟨g1, g2, hx⟩ := hx
    have g1 : x = e6 x := g1
    have g2 : ts ≠ [] := g2
    have hF : LvF x (pathV (L ++ [(false, [], (i : Int))])) ts := hx
    have hsp : SpOK (spOr (spBp true (pathV L) (siV (i : Int)) (pathV (L ++ [(false, [], (i : Int))]))) (spLv true x (pathV (L ++ [(false, [], (i : Int))])) ts)) := (spBp_ok hL (false, [], (i : Int))).or (spLv_ok hF)
    have next := l1_loop hL K zs hlz R (i + 1) (cs ++ ts) (by rw [← List.drop_drop, h1]; rfl) (by omega) (fun k p hp => by
      have := h3 (k + 1) p hp
      have e9 : i + (k + 1) = i + 1 + k := by omega
      rw [e9] at this
      exact this) (by rw [List.all_append, h4, hF.1]; rfl) (by rw [List.length_append]; omega) hK
    obtain ⟨t, tl, rfl⟩ := List.exists_cons_of_ne_nil g2
    have hself : elV zs (i : Int) = e6 (elV zs (i : Int)) := by rw [ex]; exact g1
    have hX : (e6 (elV zs (i : Int))) = x := by rw [ex]; exact g1.symm
    match cs, h4, h5, next with
    | [], h4, h5, next =>
      refine ⟨SBL true (pathV L) (siV (i : Int)) (pathV (L ++ [(false, [], (i : Int))])) x (t :: tl), [], noHooks, 900, hsp.cfg, loops_none _ _ _ _, ?_⟩
      have e := fun B => lv1n true (L.map stepV) ((L ++ [(false, [], (i : Int))]).map stepV) x (t :: tl) k0 f0 n0 s0 xs ys zs (zs.length : Int) (i : Int) B K
      refine (e _).mpr ?_
      refine pick_t (decide_eq_true (by omega)) (need_mk hb ⟨hself, need_mk (by rw [eqV_self, eqV_self]; rfl) (need_mk ?_ ⟨nn_al hF.1, ?_⟩)⟩)
      · rw [hX, eqV_self, eqV_self, Nat.ble_eq_true_of_le (show (t :: tl).length ≤ 5000 by omega)]; rfl
      · rw [wrapS (by omega)]
        exact next
    | c :: l, h4, h5, next =>
      have hall : ((c :: l) ++ (t :: tl)).all p1 = true := by rw [List.all_append, h4, hF.1]; rfl
      refine ⟨SBL true (pathV L) (siV (i : Int)) (pathV (L ++ [(false, [], (i : Int))])) x (t :: tl), [], noHooks, 900, hsp.cfg, loops_none _ _ _ _, ?_⟩
      have e := fun B => lv1b true (L.map stepV) ((L ++ [(false, [], (i : Int))]).map stepV) x (t :: tl) k0 f0 n0 s0 xs ys zs (c :: l) (l.length + 1) (zs.length : Int) (i : Int) B K
      refine (e _).mpr ?_
      refine pick_t (decide_eq_true (by omega)) (need_mk hb ⟨hself, need_mk (by rw [eqV_self, eqV_self]; rfl) (need_mk ?_ ⟨nn_al hall, ?_⟩)⟩)
      · rw [hX, eqV_self, eqV_self, Nat.beq_refl, h4, show Nat.beq (c :: l).length (l.length + 1) = true from Nat.beq_refl _, Nat.ble_eq_true_of_le (show 1 ≤ l.length + 1 by omega), Nat.ble_eq_true_of_le (show l.length + 1 + (t :: tl).length ≤ 5000 from h5b h5)]; rfl
      · rw [wrapS (by omega)]
        have e7' : l.length + 1 + (t :: tl).length = (l ++ t :: tl).length + 1 := by rw [List.length_append]; omega
        rw [e7']
        exact next
theorem l2_loop {L : List ValLaw.Stp} (hL : L.length ≤ 2) (K : AExit → List Value → AH → Prop) (zs : List Value) (hlz : zs.length ≤ 5000) : ∀ (R : List (Value × List Value)) (i : Nat) (cs : List Value), zs.drop i = R.map (·.1) → i + R.length = zs.length → (∀ (k : Nat) (p : Value × List Value), R[k]? = some p → p.1 = e7 p.1 ∧ p.2 ≠ [] ∧ ∃ w : List UInt8, elS zs ((i + k : Nat) : Int) = bl w ∧ LvF (m6 p.1) (pathV (L ++ [(true, w, 0)])) p.2) → cs.all p1 = true → cs.length + (R.flatMap (·.2)).length ≤ 5000 →
    K (.exit 2) [oV (cs ++ R.flatMap (·.2))] (mHs (cs ++ R.flatMap (·.2))) → iterE 0 Tryz.prog 60 [0, 2, 43, 44, 45] [0] [0] [0] (oneLoop (codeOf Tryz.f16) 9) (R.length + 1) (mVs (pathV L) zs (i : Int) cs) (mHs cs) K
  | [], i, cs, h1, h2, h3, h4, h5, hK => by
    have e1 : cs ++ (([] : List (Value × List Value)).flatMap (·.2)) = cs := List.append_nil _
    rw [e1] at hK
    match cs, h4, hK with
    | [], h4, hK =>
      refine ⟨SBL false (pathV L) (smV (elS zs (i : Int))) (pathV (L ++ [(false, [], 0)])) undef [], [], noHooks, 900, (no_sbl _ _ _ _ _).cfg, loops_none _ _ _ _, ?_⟩
      have e := fun B => lv2n false (L.map stepV) ((L ++ [(false, [], 0)]).map stepV) undef [] zs (zs.length : Int) (i : Int) B K
      refine (e _).mpr ?_
      exact pick_f (decide_eq_false (by simp at h2; omega)) hK
    | c :: l, h4, hK =>
      refine ⟨SBL false (pathV L) (smV (elS zs (i : Int))) (pathV (L ++ [(false, [], 0)])) undef [], [], noHooks, 900, (no_sbl _ _ _ _ _).cfg, loops_none _ _ _ _, ?_⟩
      have e := fun B => lv2b false (L.map stepV) ((L ++ [(false, [], 0)]).map stepV) undef [] zs (c :: l) (l.length + 1) (zs.length : Int) (i : Int) B K
      refine (e _).mpr ?_
      exact pick_f (decide_eq_false (by simp at h2; omega)) ⟨nn_al h4, hK⟩
  | (x, ts) :: R, i, cs, h1, h2, h3, h4, h5, hK => by
    have h2 : i + (R.length + 1) = zs.length := h2
    have ex := elV_at h1
    have hx := h3 0 (x, ts) rfl
    have hb : (decide (0 ≤ (i : Int)) && decide ((i : Int) < ((Array.mk zs).size : Int)) && Nat.beq (e7 (elV zs (i : Int))).cells.size 7) = true := by
      simp only [Bool.and_eq_true, decide_eq_true_eq]
      exact ⟨⟨by omega, by simp; omega⟩, rfl⟩
    have efm : ((x, ts) :: R).flatMap (·.2) = ts ++ R.flatMap (·.2) := rfl
    rw [efm, List.length_append] at h5
    rw [efm, ← List.append_assoc] at hK
    obtain ⟨g1, g2, hx⟩ := hx
    have g1 : x = e7 x := g1
    have g2 : ts ≠ [] := g2
    obtain ⟨w, hw, hF⟩ := hx
    have hw : elS zs (i : Int) = bl w := hw
    have hsp : SpOK (spOr (spBp true (pathV L) (smV (elS zs (i : Int))) (pathV (L ++ [(true, w, 0)]))) (spLv true (m6 x) (pathV (L ++ [(true, w, 0)])) ts)) := by
      rw [hw]
      exact (spBp_ok hL (true, w, 0)).or (spLv_ok hF)
    have next := l2_loop hL K zs hlz R (i + 1) (cs ++ ts) (by rw [← List.drop_drop, h1]; rfl) (by omega) (fun k p hp => by
      have := h3 (k + 1) p hp
      have e9 : i + (k + 1) = i + 1 + k := by omega
      rw [e9] at this
      exact this) (by rw [List.all_append, h4, hF.1]; rfl) (by rw [List.length_append]; omega) hK
    obtain ⟨t, tl, rfl⟩ := List.exists_cons_of_ne_nil g2
    have hself : elV zs (i : Int) = e7 (elV zs (i : Int)) := by rw [ex]; exact g1
    have hX : (m6 (elV zs (i : Int))) = (m6 x) := by rw [ex]
    match cs, h4, h5, next with
    | [], h4, h5, next =>
      refine ⟨SBL true (pathV L) (smV (elS zs (i : Int))) (pathV (L ++ [(true, w, 0)])) (m6 x) (t :: tl), [], noHooks, 900, hsp.cfg, loops_none _ _ _ _, ?_⟩
      have e := fun B => lv2n true (L.map stepV) ((L ++ [(true, w, 0)]).map stepV) (m6 x) (t :: tl) zs (zs.length : Int) (i : Int) B K
      refine (e _).mpr ?_
      refine pick_t (decide_eq_true (by omega)) (need_mk hb ⟨hself, need_mk (by rw [eqV_self, eqV_self]; rfl) (need_mk ?_ ⟨nn_al hF.1, ?_⟩)⟩)
      · rw [hX, eqV_self, eqV_self, Nat.ble_eq_true_of_le (show (t :: tl).length ≤ 5000 by omega)]; rfl
      · rw [wrapS (by omega)]
        exact next
    | c :: l, h4, h5, next =>
      have hall : ((c :: l) ++ (t :: tl)).all p1 = true := by rw [List.all_append, h4, hF.1]; rfl
      refine ⟨SBL true (pathV L) (smV (elS zs (i : Int))) (pathV (L ++ [(true, w, 0)])) (m6 x) (t :: tl), [], noHooks, 900, hsp.cfg, loops_none _ _ _ _, ?_⟩
      have e := fun B => lv2b true (L.map stepV) ((L ++ [(true, w, 0)]).map stepV) (m6 x) (t :: tl) zs (c :: l) (l.length + 1) (zs.length : Int) (i : Int) B K
      refine (e _).mpr ?_
      refine pick_t (decide_eq_true (by omega)) (need_mk hb ⟨hself, need_mk (by rw [eqV_self, eqV_self]; rfl) (need_mk ?_ ⟨nn_al hall, ?_⟩)⟩)
      · rw [hX, eqV_self, eqV_self, Nat.beq_refl, h4, show Nat.beq (c :: l).length (l.length + 1) = true from Nat.beq_refl _, Nat.ble_eq_true_of_le (show 1 ≤ l.length + 1 by omega), Nat.ble_eq_true_of_le (show l.length + 1 + (t :: tl).length ≤ 5000 from h5b h5)]; rfl
      · rw [wrapS (by omega)]
        have e7' : l.length + 1 + (t :: tl).length = (l ++ t :: tl).length + 1 := by rw [List.length_append]; omega
        rw [e7']
        exact next
end Go.Proofs.YtmclppkligkooaaGreatDoor
