/-
  Limits: as much as is left is let in: the law around its loop.
-/
import Derived.Test.YtbigicdojndnjaaGreatDoorLkM
namespace Go.Proofs.YtbigicdojndnjaaGreatDoor
open Go.Ev Go.RowKit LimLaw

theorem ridLW : ((loopsOf (codeOf Tryz.f4)).all fun b => match rid b with | some j => Nat.blt j 1000000 | none => true) = true := by kernel_rfl
theorem hookL {ys : List Value} {n at_ : Int} {H0 H1 : AH} {r : Nat} (hi : ∀ K : AExit → List Value → AH → Prop, K (.exit 0) (xV at_) H1 → iterE 0 Tryz.prog 150 [3, 6, 8, 10, 60, 61, 62] [] [2, 3, 6, 8, 10] [] (oneLoop (codeOf Tryz.f4) 11) r (bV 0 ys n 0) H0 K) :
    LSpec 0 Tryz.prog 150 (oneLoop (codeOf Tryz.f4) 11) (hookLS 0 150 [3, 6, 8, 10, 60, 61, 62] [] [2, 3, 6, 8, 10] (fun vals h K => (vals = bV 0 ys n 0 ∧ h = H0) ∧ K (.exit 0) (xV at_) H1)) := by
  refine hookE_ok (sameX := []) mixed (by decide) ?_
  rintro vals h K ⟨⟨rfl, rfl⟩, hK⟩
  exact ⟨_, hi K hK⟩
noncomputable def preE (zs : List Int) (d n : Int) (ys : List Value) (e : Int) (X : Prop) : Prop :=
  bif eqV (fz (intsV zs)) (fz (intsV zs)) && Nat.beq 25 25 && decide ((0 : Int) = 0) && eqV (.string keyB) (.string keyB) then dr (intsV zs) d (bif eqV (fz (intsV zs)) (fz (intsV zs)) && Nat.beq 25 25 && decide (d + 1 = d + 1) && decide (IntKind.i64.wrap (0 + nextR (intsV zs) d 11) = n) then
    bif eqV (fz ⟨ys⟩) (fz ⟨ys⟩) then bif e != 0 then X else False else False else False) else False
theorem lwE (zs : List Int) (c m p b d n d2 e : Int) (ys : List Value) (Q : Value → Prop) : ffn Tryz.prog (SLz zs c m p b d n d2 ys e) [(7, true)] 3000 [] Tryz.f4 [fz (intsV zs)] h0 (fun v _ => Q v) = preE zs d n ys e (Q (.bool true)) := by kernel_rfl
theorem preE_mk {zs : List Int} {d n e : Int} {ys : List Value} {X : Prop} (h0 : 0 ≤ d) (h1 : d ≤ 100) (hn : IntKind.i64.wrap (0 + nextR (intsV zs) d 11) = n) (he : e ≠ 0) (x : X) : preE zs d n ys e X :=
  need_mk (by rw [eqV_self, eqV_self]; rfl) (dr_mk h0 (by omega) (need_mk (by rw [eqV_self, hn]; simp) (need_mk (eqV_self _) (need_mk (by simp [he]) x))))
theorem preT_mk {zs : List Int} {c m p b d n d2 e : Int} {ys : List Value} {X : Prop} (h0 : 0 ≤ d) (h1 : d ≤ 100) (hn : IntKind.i64.wrap (0 + nextR (intsV zs) d 11) = n) (he : e = 0) (hL : okLB keyB c m p b = true) (x : X) : preT zs c m p b d n d2 ys e X :=
  need_mk (by rw [eqV_self, eqV_self]; rfl) (dr_mk h0 (by omega) (need_mk (by rw [eqV_self, hn]; simp) (need_mk (eqV_self _) (pick_f (by simp [he]) (need_mk (by rw [hL]; rfl) (need_mk (by rw [hL]; rfl) x))))))
theorem at_in {r : Int} (h0 : 0 ≤ r) (h1 : r < 4) : 0 ≤ gI atP r ∧ gI atP r ≤ 20 := by
  have : r = 0 ∨ r = 1 ∨ r = 2 ∨ r = 3 := by omega
  rcases this with rfl | rfl | rfl | rfl <;> decide +kernel
theorem endT_mk {zs : List Int} {d2 at_ now A : Int} {X F : Prop} (h0 : 0 ≤ d2) (h1 : d2 ≤ 5000) (hA : IntKind.i64.wrap (at_ + gI atP (nextR (intsV zs) d2 4)) = A) (a0 : 0 ≤ A) (a1 : A < 345686400000) (hn : now ≤ A) (x : X) : endT zs d2 at_ now A X F :=
  dr_mk h0 (by omega) (rg_mk h0 (by omega) rfl (by decide) ⟨by rw [hA], pick_t (decide_eq_true a0) (pick_f (by simp [a1]) (pick_f (decide_eq_false (by omega)) x))⟩)
theorem body_mk {M A now : Int} (hM : M ≤ 5) (a0 : 0 ≤ A) (a1 : A < 345686400000) (hn : now ≤ A) {V1 : Int → Prop → Prop} (h1 : ∀ co X, co ≤ M → X → V1 co X) {V2 : Int → Prop} (h2 : ∀ co, ¬ co ≤ M → V2 co) {F : Prop} :
    (bif decide (mx0 M > 0) then (bif akOK (A, annB, mx0 M, 0) then (bif decide (A < A) then F else V1 (mx0 M) (bif akOK (A, annB, IntKind.i64.wrap (mx0 M + 1), 0) then (bif decide (A < now) then F else V2 (IntKind.i64.wrap (mx0 M + 1))) else False)) else False)
      else (bif akOK (A, annB, IntKind.i64.wrap (mx0 M + 1), 0) then (bif decide (A < now) then F else V2 (IntKind.i64.wrap (mx0 M + 1))) else False)) := by
  have hak : ∀ co : Int, 1 ≤ co → co ≤ 10 → akOK (A, annB, co, 0) = true := fun co c0 c1 => by
    unfold akOK
    simp only [Bool.and_eq_true, decide_eq_true_eq]
    exact ⟨⟨⟨⟨⟨⟨a0, a1⟩, by decide +kernel⟩, c0⟩, by omega⟩, Int.le_refl _⟩, by omega⟩
  by_cases q : M > 0
  · have e : mx0 M = M := by unfold mx0; rw [if_pos q]
    rw [e, wrap_id (M + 1) (by omega) (by omega)]
    exact pick_t (decide_eq_true q) (need_mk (hak _ (by omega) (by omega)) (pick_f (decide_eq_false (by omega)) (h1 _ _ (Int.le_refl _) (need_mk (hak _ (by omega) (by omega)) (pick_f (decide_eq_false (by omega)) (h2 _ (by omega)))))))
  · have e : mx0 M = 0 := by unfold mx0; rw [if_neg q]
    rw [e, wrap_id (0 + 1) (by omega) (by omega)]
    exact pick_f (decide_eq_false (by omega)) (need_mk (hak _ (by omega) (by omega)) (pick_f (decide_eq_false (by omega)) (h2 _ (by omega))))
theorem vW2_ok {m p b x y t co : Int} (hp : p ≠ 0) (q : co ≤ moW m p x y t) {ok : Int → Int → Prop} {no : Int → Prop} (h : ∀ x y, ok x y) : vW2 m p b x y t co ok no :=
  need_mk (by simp [hp]) (pick_t (decide_eq_true q) (need_mk (by simp [hp]) (h _ _)))
theorem vW2_no {m p b x y t co : Int} (hp : p ≠ 0) (q : ¬ co ≤ moW m p x y t) {ok : Int → Int → Prop} {no : Int → Prop} (h : ∀ w, no w) : vW2 m p b x y t co ok no := by
  refine need_mk (by simp [hp]) (pick_f (decide_eq_false q) ?_)
  by_cases q2 : co ≤ m
  · exact pick_t (decide_eq_true q2) (need_mk (by simp [hp]) (h _))
  · exact pick_f (decide_eq_false q2) (h _)
theorem vB2_ok {m p b x y t co : Int} (hp : p ≠ 0) (hm : m ≠ 0) (q : co ≤ moB m p b x y t) {ok : Int → Int → Prop} {no : Int → Prop} (h : ∀ x y, ok x y) : vB2 m p b x y t co ok no :=
  need_mk (by simp [hp, hm]) (pick_t (decide_eq_true q) (need_mk (by simp [hp, hm]) (h _ _)))
theorem vB2_no {m p b x y t co : Int} (hp : p ≠ 0) (hm : m ≠ 0) (q : ¬ co ≤ moB m p b x y t) {ok : Int → Int → Prop} {no : Int → Prop} (h : ∀ w, no w) : vB2 m p b x y t co ok no := by
  refine need_mk (by simp [hp, hm]) (pick_f (decide_eq_false q) ?_)
  by_cases q2 : co ≤ b
  · exact pick_t (decide_eq_true q2) (need_mk (by simp [hp, hm]) (h _))
  · exact pick_f (decide_eq_false q2) (h _)
theorem with_any {u c : Int} {F : List P2} (h : F.length ≤ 1000) {ok : Nat → List Value → Prop} (x : ∀ k ps, ok k ps) :
    (bif Nat.beq F.length F.length && okC F.length (F.flatMap pcC) && Nat.ble F.length 1000 && true then ok (F.length + 1) ((wiL u c (rdL F.length (F.flatMap pcC))).flatMap pcC) else False) := need_mk (by rw [row_c h]; rfl) (x _ _)
theorem vR_ok {m p l t c : Int} {L : List P2} (hl : L.length ≤ 1000) (q : c ≤ IntKind.i64.wrap (m - sumP t 0 (rdL L.length (L.flatMap pcC)))) {ok : Nat → List Value → Prop} {no : Int → Prop} (h : ∀ k ps, ok k ps) : vR m p l L.length (L.flatMap pcC) t c ok no := by
  refine need_mk (row_c hl) (pick_t (decide_eq_true q) (need_mk (by rw [row_c hl]; rfl) ?_))
  rw [kpL_eq]
  exact with_any (Nat.le_trans (List.length_filter_le _ _) hl) h
theorem vR_no {m p l t c : Int} {L : List P2} (hl : L.length ≤ 1000) (q : ¬ c ≤ IntKind.i64.wrap (m - sumP t 0 (rdL L.length (L.flatMap pcC)))) {ok : Nat → List Value → Prop} {no : Int → Prop} (h : ∀ w, no w) : vR m p l L.length (L.flatMap pcC) t c ok no := by
  refine need_mk (row_c hl) (pick_f (decide_eq_false q) ?_)
  by_cases q2 : c ≤ m
  · exact pick_t (decide_eq_true q2) (need_mk (row_c hl) (h _))
  · exact pick_f (decide_eq_false q2) (h _)
theorem vL_ok {m p l t c : Int} {L : List P2} (hl : L.length ≤ 1000) (q : c ≤ IntKind.i64.wrap (m - sumP t 0 (rdL L.length (L.flatMap pcC)))) {ok : Nat → List Value → Prop} {no : Int → Prop} (h : ∀ k ps, ok k ps) : vL m p l L.length (L.flatMap pcC) t c ok no := by
  refine need_mk (row_c hl) (pick_t (decide_eq_true q) (need_mk (by rw [row_c hl]; rfl) ?_))
  rw [kpL_eq]
  by_cases q3 : l > 0
  · exact pick_t (decide_eq_true q3) (with_any (Nat.le_trans (List.length_filter_le _ _) hl) h)
  · exact pick_f (decide_eq_false q3) (h _ _)
theorem vL_no {m p l t c : Int} {L : List P2} (hl : L.length ≤ 1000) (q : ¬ c ≤ IntKind.i64.wrap (m - sumP t 0 (rdL L.length (L.flatMap pcC)))) {ok : Nat → List Value → Prop} {no : Int → Prop} (h : ∀ w, no w) : vL m p l L.length (L.flatMap pcC) t c ok no := by
  refine need_mk (row_c hl) (pick_f (decide_eq_false q) ?_)
  by_cases q2 : c ≤ m
  · exact pick_t (decide_eq_true q2) (need_mk (row_c hl) (h _))
  · exact pick_f (decide_eq_false q2) (h _)
theorem v0_ok {m c : Int} (q : c ≤ IntKind.i64.wrap (m - 0)) {ok : Prop} {no : Int → Prop} (h : ok) : v0 m c ok no := pick_t (decide_eq_true q) h
theorem v0_no {m c : Int} (q : ¬ c ≤ IntKind.i64.wrap (m - 0)) {ok : Prop} {no : Int → Prop} (h : ∀ w, no w) : v0 m c ok no := by
  refine pick_f (decide_eq_false q) ?_
  by_cases q2 : c ≤ m
  · exact pick_t (decide_eq_true q2) (h _)
  · exact pick_f (decide_eq_false q2) (h _)
theorem m0_in {m : Int} (hm : okM m) : IntKind.i64.wrap (m - 0) ≤ 5 := by
  have := okM_in hm
  rw [wrap_id _ (by omega) (by omega)]; omega
theorem mR_in {m t now : Int} {i : Nat} {L : List P2} (hm : okM m) (hi : i ≤ 100) (hg : GR now i L) : IntKind.i64.wrap (m - sumP t 0 (rdL L.length (L.flatMap pcC))) ≤ 5 := by
  have h5 := okM_in hm
  have hl : L.length ≤ 100 := Nat.le_trans hg.1 hi
  rw [rdL_flat]
  have := sum_in t L 0 hg.2 (Int.le_refl _) (by omega)
  rw [wrap_id _ (by omega) (by omega)]; omega
theorem last_in : ∀ {L : List A4} {now : Int}, (∀ a ∈ L, okW a) → okFrom now L → 0 ≤ now → now ≤ 5000 → 0 ≤ lastAt now L ∧ lastAt now L ≤ 5000
  | [], _, _, _, h0, h1 => ⟨h0, h1⟩
  | a :: L, now, hw, h, h0, h1 => by
    have k := h.1
    unfold akOK at k
    simp only [Bool.and_eq_true, decide_eq_true_eq] at k
    obtain ⟨⟨⟨⟨⟨⟨k0, k1⟩, _⟩, _⟩, _⟩, _⟩, _⟩ := k
    refine last_in (L := L) (now := a.1) (fun b hb => hw b (by simp [hb])) h.2.2 k0 ?_
    rcases (hw a (by simp)).2 with q | q
    · exact q
    · omega
end Go.Proofs.YtbigicdojndnjaaGreatDoor
