/-
  Limits: the kinds, and what Replay says.
-/
import Derived.Test.YteeomeididcdlaaGreatDoorLmG
namespace Go.Ev
open Go.RowKit
/-- A loop that is told, and then its end in other words. -/
noncomputable def thenLS (ls g : LS) : LS := fun t h K => ls t h fun e t' h' => match e with
  | .exit i => g t' h' fun _ t2 h2 => K (.exit i) t2 h2
  | e => K e t' h'
theorem thenLS_ok {p : Nat} {P : Program} {m : Nat} {b : Code} {ls g : LS} (hl : LSpec p P m b ls) (hg : GSpec p P m g) : LSpec p P m b (thenLS ls g) := by
  intro t τ h K hr hs
  refine Tri.post ((hl t τ h _ hr hs).mono ?_)
  rintro e τ' h' ⟨t', hr', hq⟩
  cases e with
  | exit i =>
    obtain ⟨t2, τ2, h2, hW, hr2, hq2⟩ := hg t' τ' h' _ hr' hq
    exact ⟨τ2, h2, hW, t2, hr2, hq2⟩
  | normal => exact ⟨τ', h', Weak.refl _ _ _ _, t', hr', hq⟩
  | ret => exact ⟨τ', h', Weak.refl _ _ _ _, t', hr', hq⟩
end Go.Ev
namespace Go.Proofs.YteeomeididcdlaaGreatDoor
open Go.Ev Go.RowKit LimLaw

theorem ghost_body (t l : Int) : LoopsOK 1 Tryz.prog 47 (ghost1 11 (tellB 11 (akC (t, annB, 1, l)))) (oneLoop (codeOf Tryz.f16) 10) := ghosts_one (by kernel_rfl) (tellB_ok _ _ _ _ _)
/-! windows -/
def stW (m p : Int) (s : Int × Int) (t : Int) : Vd × (Int × Int) := if 1 ≤ m - usedW p s.1 s.2 t then (okVd, (t / p, usedW p s.1 s.2 t + 1)) else (noVd ((t / p + 1) * p - t), s)
def HW (m p : Int) (s : Int × Int) (oc : List Value) (now : Int) : AH := mt1 (lmC keyB 1 m p 0) (lmC keyB 1 m p 0 ++ [.int .i64 s.1, .int .i64 s.2]) oc annB now 151 149
theorem div_in {p t : Int} (hp : okPer p) (h0 : 0 ≤ t) : t.tdiv p = t / p ∧ 0 ≤ t / p ∧ t / p ≤ t := by
  refine ⟨Int.tdiv_eq_ediv_of_nonneg h0, ?_⟩
  rcases hp with rfl | rfl | rfl | rfl | rfl <;> omega
theorem usT_mk {p a n t : Int} (hp : okPer p) (h0 : 0 ≤ t) (h1 : t ≤ 1000) {K : Int → Prop} (hK : K (usedW p a n t)) : usT p a n t K := by
  obtain ⟨e1, e2, e3⟩ := div_in hp h0
  have hp0 := okPer_in hp
  refine need_mk (by simp; omega) ?_
  rw [e1, wrap_id _ (by omega) (by omega)]
  unfold usedW at hK
  by_cases q : t / p = a
  · rw [if_pos q] at hK
    exact pick_f (by rw [q]; simp) hK
  · rw [if_neg q] at hK
    exact pick_t (by simpa using q) hK
theorem used_in {p a n t m : Int} (h0 : 0 ≤ n) (h1 : n ≤ m) (hm : 0 ≤ m) : 0 ≤ usedW p a n t ∧ usedW p a n t ≤ m := by
  unfold usedW
  split <;> omega
theorem vW_mk {m p a n t : Int} (hm : okM m) (hp : okPer p) (h0 : 0 ≤ t) (h1 : t ≤ 1000) (hn0 : 0 ≤ n) (hn1 : n ≤ m) {ok : Int → Int → Prop} {no : Int → Prop} (h : if 1 ≤ m - usedW p a n t then ok (t / p) (usedW p a n t + 1) else no ((t / p + 1) * p - t)) :
    vW m p 0 a n t 1 ok no := by
  have hm5 := okM_in hm
  have hp5 := okPer_in hp
  obtain ⟨e1, e2, e3⟩ := div_in hp h0
  have hu := used_in (p := p) (a := a) (t := t) hn0 hn1 (by omega)
  have hpp : (t / p + 1) * p ≤ 200000 ∧ 0 ≤ (t / p + 1) * p := by
    rcases hp with rfl | rfl | rfl | rfl | rfl <;> omega
  refine usT_mk hp h0 h1 ?_
  rw [wrap_id (m - usedW p a n t) (by omega) (by omega)]
  by_cases q : 1 ≤ m - usedW p a n t
  · rw [if_pos q] at h
    refine pick_t (decide_eq_true q) (need_mk (by simp; omega) (usT_mk hp h0 h1 ?_))
    rw [e1, wrap_id (t / p) (by omega) (by omega), wrap_id (usedW p a n t + 1) (by omega) (by omega)]
    exact h
  · rw [if_neg q] at h
    refine pick_f (decide_eq_false q) (pick_t (decide_eq_true (by omega)) (need_mk (by simp; omega) ?_))
    rw [e1, wrap_id (t / p) (by omega) (by omega), wrap_id (t / p + 1) (by omega) (by omega), wrap_id ((t / p + 1) * p) (by omega) (by omega), wrap_id _ (by omega) (by omega)]
    exact h
theorem rW {m p : Int} (hm : okM m) (hp : okPer p) : RoundOK [2] (lmC keyB 1 m p 0) (HW m p) (stW m p) (fun s _ => 0 ≤ s.2 ∧ s.2 ≤ m) := by
  intro xs oc j s n i now t hg
  refine ⟨SRp, _, 3000, SRp_ok, ghost_body t 0, fun B Q h => ?_⟩
  refine (rpW1 xs oc j m p 0 s.1 s.2 n i now t 1 0 B Q).mpr ?_
  rcases h with ⟨hA, hap⟩ | ⟨hn, hnn, hq⟩
  · refine rnd_at hA (vW_mk hm hp hA.pos hA.top hg.1 hg.2 ?_)
    unfold stW at hap
    split at hap
    · rename_i q; rw [if_pos q]; exact hap
    · rename_i q; rw [if_neg q]; exact hap
  · exact rnd_end hn ⟨hnn, hq⟩
theorem fW {m p : Int} (hm : okM m) (hp : okPer p) : FirstOK [2] (lmC keyB 1 m p 0) (HW m p) (stW m p) (0, 0) := by
  intro xs n i t
  have hm5 := okM_in hm
  refine ⟨SRp, _, 3000, SRp_ok, ghost_body t 0, fun B Q h => ?_⟩
  refine (rpW0 xs m p 0 n i 0 t 1 0 B Q).mpr ?_
  rcases h with ⟨hA, hap⟩ | ⟨hn, hq⟩
  · have hu : usedW p 0 0 t = 0 := by unfold usedW; split <;> rfl
    refine rnd_at hA (vW_mk hm hp hA.pos hA.top (Int.le_refl _) (by omega) ?_)
    unfold stW at hap
    simp only [hu] at hap ⊢
    rw [if_pos (by omega)] at hap ⊢
    exact ⟨nnV [okVd] 42 (0, 0), hap⟩
  · exact rnd_end hn hq
theorem gdW {m p : Int} (hm : okM m) : ∀ (s : Int × Int) (now t : Int), (0 ≤ s.2 ∧ s.2 ≤ m) → now ≤ t → 0 ≤ t → t ≤ 1000 → 0 ≤ (stW m p s t).2.2 ∧ (stW m p s t).2.2 ≤ m := by
  intro s now t h _ _ _
  have hm5 := okM_in hm
  have hu := used_in (p := p) (a := s.1) (t := t) h.1 h.2 (by omega)
  unfold stW
  split
  · show 0 ≤ usedW p s.1 s.2 t + 1 ∧ usedW p s.1 s.2 t + 1 ≤ m; omega
  · exact h
theorem runW_eq (m p : Int) : ∀ (L : List Int) (a n : Int), (runG (stW m p) (a, n) L).map (·.1) = runW m p a n L
  | [], _, _ => rfl
  | t :: L, a, n => by
    rw [runG, List.map_cons, runW]
    by_cases q : 1 ≤ m - usedW p a n t
    · have e : stW m p (a, n) t = (okVd, (t / p, usedW p a n t + 1)) := if_pos q
      rw [if_pos q, e, runW_eq m p L]; rfl
    · have e : stW m p (a, n) t = (noVd ((t / p + 1) * p - t), (a, n)) := if_neg q
      rw [if_neg q, e, runW_eq m p L]; rfl

/-! buckets -/
def stB (m p b : Int) (s : Int × Int) (t : Int) : Vd × (Int × Int) := if 1 ≤ nowB m (b * p) s.1 s.2 t / p then (okVd, (t, nowB m (b * p) s.1 s.2 t - p)) else (noVd (up (p - nowB m (b * p) s.1 s.2 t) m), s)
def HB (m p b : Int) (s : Int × Int) (oc : List Value) (now : Int) : AH := mt1 (lmC keyB 3 m p b) (lmC keyB 3 m p b ++ [.int .i64 s.1, .int .i64 s.2]) oc annB now 95 93
theorem upT_mk {a b : Int} (hb : okM b) (h0 : 0 ≤ a) (h1 : a ≤ 1000000) {K : Int → Prop} (hK : K (up a b)) : upT a b K := by
  have e1 : a.tdiv b = a / b := Int.tdiv_eq_ediv_of_nonneg h0
  have e2 : a.tmod b = a % b := Int.tmod_eq_emod_of_nonneg h0
  have hb0 := okM_in hb
  have hr : 0 ≤ a / b ∧ a / b ≤ a := by rcases hb with rfl | rfl | rfl | rfl <;> omega
  refine need_mk (by simp; omega) (need_mk (by simp; omega) ?_)
  rw [e1, e2, wrap_id (a / b) (by omega) (by omega), wrap_id (a / b + 1) (by omega) (by omega)]
  unfold up at hK
  by_cases q : a % b = 0
  · rw [if_pos q] at hK
    exact pick_f (by rw [q]; rfl) hK
  · rw [if_neg q] at hK
    exact pick_t (by simpa using q) hK
theorem full_in {p b : Int} (hp : okPer p) (hb : okBu b) : 1 ≤ b * p ∧ b * p ≤ 500 ∧ p ≤ b * p := by
  rcases hb with rfl | rfl | rfl <;> rcases hp with rfl | rfl | rfl | rfl | rfl <;> omega
theorem nowB_in {m f a l t : Int} (hm : okM m) (h0 : 0 ≤ l) (h1 : l ≤ f) (ha : a ≤ t) : 0 ≤ nowB m f a l t ∧ nowB m f a l t ≤ f := by
  rw [nowB_min hm h1 ha]
  rcases hm with rfl | rfl | rfl | rfl <;> omega
theorem nwT_mk {m p b a l t : Int} (hm : okM m) (hp : okPer p) (hb : okBu b) (h0 : 0 ≤ l) (h1 : l ≤ b * p) (ha0 : 0 ≤ a) (ha : a ≤ t) (ht : t ≤ 1000) {K : Int → Prop} (hK : K (nowB m (b * p) a l t)) : nwT m p b a l t K := by
  have hf := full_in hp hb
  have hm5 := okM_in hm
  have hmt : 0 ≤ m * (t - a) ∧ m * (t - a) ≤ 5000 := by rcases hm with rfl | rfl | rfl | rfl <;> omega
  unfold nwT
  rw [wrap_id (b * p) (by omega) (by omega), wrap_id (b * p - l) (by omega) (by omega), wrap_id (t - a) (by omega) (by omega), wrap_id (m * (t - a)) (by omega) (by omega), wrap_id (l + m * (t - a)) (by omega) (by omega)]
  refine upT_mk hm (by omega) (by omega) ?_
  unfold nowB at hK
  by_cases q : up (b * p - l) m ≤ t - a
  · rw [if_pos q] at hK
    exact pick_t (decide_eq_true q) hK
  · rw [if_neg q] at hK
    exact pick_f (decide_eq_false q) hK
theorem vB_mk {m p b a l t : Int} (hm : okM m) (hp : okPer p) (hb : okBu b) (h0 : 0 ≤ l) (h1 : l ≤ b * p) (ha0 : 0 ≤ a) (ha : a ≤ t) (ht : t ≤ 1000) {ok : Int → Int → Prop} {no : Int → Prop}
    (h : if 1 ≤ nowB m (b * p) a l t / p then ok t (nowB m (b * p) a l t - p) else no (up (p - nowB m (b * p) a l t) m)) : vB m p b a l t 1 ok no := by
  have hf := full_in hp hb
  have hb5 := okBu_in hb
  have hp5 := okPer_in hp
  have hx := nowB_in (t := t) hm h0 h1 ha
  obtain ⟨e1, e2, e3⟩ := div_in hp hx.1
  refine nwT_mk hm hp hb h0 h1 ha0 ha ht (need_mk (by simp; omega) ?_)
  rw [e1, wrap_id _ (by omega) (by omega)]
  by_cases q : 1 ≤ nowB m (b * p) a l t / p
  · rw [if_pos q] at h
    refine pick_t (decide_eq_true q) (nwT_mk hm hp hb h0 h1 ha0 ha ht ?_)
    rw [Int.one_mul, wrap_id p (by omega) (by omega), wrap_id _ (by omega) (by omega)]
    exact h
  · rw [if_neg q] at h
    have hlt : nowB m (b * p) a l t < p := by
      generalize nowB m (b * p) a l t = x at *
      rcases hp with rfl | rfl | rfl | rfl | rfl <;> omega
    refine pick_f (decide_eq_false q) (pick_t (decide_eq_true (by omega)) (nwT_mk hm hp hb h0 h1 ha0 ha ht ?_))
    rw [Int.one_mul, wrap_id p (by omega) (by omega), wrap_id _ (by omega) (by omega)]
    exact upT_mk hm (by omega) (by omega) h
theorem rB {m p b : Int} (hm : okM m) (hp : okPer p) (hb : okBu b) : RoundOK [2] (lmC keyB 3 m p b) (HB m p b) (stB m p b) (fun s now => 0 ≤ s.2 ∧ s.2 ≤ b * p ∧ 0 ≤ s.1 ∧ s.1 ≤ now) := by
  intro xs oc j s n i now t hg
  refine ⟨SRp, _, 3000, SRp_ok, ghost_body t 0, fun B Q h => ?_⟩
  refine (rpB1 xs oc j m p b s.1 s.2 n i now t 1 0 B Q).mpr ?_
  rcases h with ⟨hA, hap⟩ | ⟨hn, hnn, hq⟩
  · refine rnd_at hA (vB_mk hm hp hb hg.1 hg.2.1 hg.2.2.1 (Int.le_trans hg.2.2.2 hA.le) hA.top ?_)
    unfold stB at hap
    split at hap
    · rename_i q; rw [if_pos q]; exact hap
    · rename_i q; rw [if_neg q]; exact hap
  · exact rnd_end hn ⟨hnn, hq⟩
theorem nowB_full {m f a t : Int} (hm : okM m) (ha : a ≤ t) (hf : 0 ≤ f) : nowB m f a f t = f := by
  rw [nowB_min hm (Int.le_refl _) ha]
  rcases hm with rfl | rfl | rfl | rfl <;> omega
theorem fB {m p b : Int} (hm : okM m) (hp : okPer p) (hb : okBu b) : FirstOK [2] (lmC keyB 3 m p b) (HB m p b) (stB m p b) (0, b * p) := by
  intro xs n i t
  have hf := full_in hp hb
  refine ⟨SRp, _, 3000, SRp_ok, ghost_body t 0, fun B Q h => ?_⟩
  refine (rpB0 xs m p b n i 0 t 1 0 B Q).mpr ?_
  rcases h with ⟨hA, hap⟩ | ⟨hn, hq⟩
  · rw [wrap_id (b * p) (by omega) (by omega)]
    refine rnd_at hA (vB_mk hm hp hb (by omega) (Int.le_refl _) (Int.le_refl _) hA.pos hA.top ?_)
    have hx := nowB_full (m := m) (a := 0) (t := t) hm hA.pos (show 0 ≤ b * p by omega)
    have hq : 1 ≤ b * p / p := by
      rcases hb with rfl | rfl | rfl <;> rcases hp with rfl | rfl | rfl | rfl | rfl <;> omega
    unfold stB at hap
    simp only [hx] at hap ⊢
    rw [if_pos hq] at hap ⊢
    exact ⟨nnV [okVd] 42 (0, 0), hap⟩
  · exact rnd_end hn hq
theorem gdB {m p b : Int} (hm : okM m) (hp : okPer p) (hb : okBu b) : ∀ (s : Int × Int) (now t : Int), (0 ≤ s.2 ∧ s.2 ≤ b * p ∧ 0 ≤ s.1 ∧ s.1 ≤ now) → now ≤ t → 0 ≤ t → t ≤ 1000 →
    0 ≤ (stB m p b s t).2.2 ∧ (stB m p b s t).2.2 ≤ b * p ∧ 0 ≤ (stB m p b s t).2.1 ∧ (stB m p b s t).2.1 ≤ t := by
  intro s now t h h1 h2 _
  have hx := nowB_in (t := t) hm h.1 h.2.1 (Int.le_trans h.2.2.2 h1)
  have hp5 := okPer_in hp
  unfold stB
  split
  · rename_i q
    have hge : p ≤ nowB m (b * p) s.1 s.2 t := by
      generalize nowB m (b * p) s.1 s.2 t = x at *
      rcases hp with rfl | rfl | rfl | rfl | rfl <;> omega
    show 0 ≤ nowB m (b * p) s.1 s.2 t - p ∧ nowB m (b * p) s.1 s.2 t - p ≤ b * p ∧ 0 ≤ t ∧ t ≤ t
    omega
  · exact ⟨h.1, h.2.1, h.2.2.1, Int.le_trans h.2.2.2 h1⟩
theorem runB_eq (m p b : Int) : ∀ (L : List Int) (a l : Int), (runG (stB m p b) (a, l) L).map (·.1) = runB m p (b * p) a l L
  | [], _, _ => rfl
  | t :: L, a, l => by
    rw [runG, List.map_cons, runB]
    by_cases q : 1 ≤ nowB m (b * p) a l t / p
    · have e : stB m p b (a, l) t = (okVd, (t, nowB m (b * p) a l t - p)) := if_pos q
      rw [if_pos q, e, runB_eq m p b L]; rfl
    · have e : stB m p b (a, l) t = (noVd (up (p - nowB m (b * p) a l t) m), (a, l)) := if_neg q
      rw [if_neg q, e, runB_eq m p b L]; rfl
/-! what lasts -/
def stO (s : Unit) (_ : Int) : Vd × Unit := (okVd, s)
def HO (m : Int) (_ : Unit) (oc : List Value) (now : Int) : AH := mt1 (lmC keyB 4 m 0 0) (lmC keyB 4 m 0 0 ++ [.slice none 0 0]) oc annB now 158 157
theorem v0_mk {m : Int} (hm : okM m) {ok : Prop} {no : Int → Prop} (h : ok) : v0 m 1 ok no := by
  have hm5 := okM_in hm
  unfold v0
  rw [wrap_id _ (by omega) (by omega)]
  exact pick_t (decide_eq_true (by omega)) h
theorem rO {m : Int} (hm : okM m) : RoundOK [2] (lmC keyB 4 m 0 0) (HO m) stO (fun _ _ => True) := by
  intro xs oc j s n i now t hg
  refine ⟨SRp, _, 3000, SRp_ok, ghost_body t 0, fun B Q h => ?_⟩
  refine (rpO1 xs oc j m 0 0 n i now t 1 B Q).mpr ?_
  rcases h with ⟨hA, hap⟩ | ⟨hn, hnn, hq⟩
  · exact rnd_at hA (v0_mk hm hap)
  · exact rnd_end hn ⟨hnn, hq⟩
theorem fO {m : Int} (hm : okM m) : FirstOK [2] (lmC keyB 4 m 0 0) (HO m) stO () := by
  intro xs n i t
  refine ⟨SRp, _, 3000, SRp_ok, ghost_body t 0, fun B Q h => ?_⟩
  refine (rpO0 xs m 0 0 n i 0 t 1 B Q).mpr ?_
  rcases h with ⟨hA, hap⟩ | ⟨hn, hq⟩
  · exact rnd_at hA (v0_mk hm ⟨nnV [okVd] 42 (0, 0), hap⟩)
  · exact rnd_end hn hq
/-! sliding -/
def pr (u : Int) : P2 := (u, 1)
def stS (m p : Int) (U : List Int) (t : Int) : Vd × List Int := if 1 ≤ m - live t U then (okVd, (U.filter fun u => decide (t < u)) ++ [t + p]) else (noVd (waitP t (IntKind.i64.wrap (m - 1)) (sumP t 0 (U.map pr)) (U.map pr)), U)
def HS (m p : Int) (U : List Int) (oc : List Value) (now : Int) : AH := mtS (lmC keyB 2 m p 0) oc U.length ((U.map pr).flatMap pcC) annB now
theorem filter_pr (t : Int) : ∀ U : List Int, (U.map pr).filter (keep t) = (U.filter fun u => decide (t < u)).map pr
  | [] => rfl
  | u :: U => by
    have ih := filter_pr t U
    have e : keep t (pr u) = decide (t < u) := by
      unfold keep pr
      by_cases q : t < u
      · rw [decide_eq_true q]; simpa using q
      · rw [decide_eq_false q]; simp; omega
    rw [List.map_cons, List.filter_cons, List.filter_cons, e]
    by_cases q : t < u
    · rw [if_pos (decide_eq_true q), if_pos (decide_eq_true q), ih, List.map_cons]
    · rw [if_neg (by simpa using q), if_neg (by simpa using q), ih]
theorem sum_pr (t : Int) : ∀ (U : List Int) (s : Int), 0 ≤ s → s + U.length ≤ 1000 → sumP t s (U.map pr) = s + live t U
  | [], s, _, _ => by simp [sumP, live]
  | u :: U, s, h0, h1 => by
    rw [List.length_cons] at h1
    rw [List.map_cons, sumP]
    have e : live t (u :: U) = (if t < u then 1 else 0) + live t U := by
      unfold live
      rw [List.filter_cons]
      by_cases q : t < u
      · rw [if_pos (by simpa using q), if_pos q, List.length_cons]; omega
      · rw [if_neg (by simpa using q), if_neg q]; omega
    rw [e]
    by_cases q : t < u
    · rw [show decide ((pr u).1 > t) = true from decide_eq_true q, cond_true, show IntKind.i64.wrap (s + (pr u).2) = s + 1 from wrap_id _ (by show _ ≤ s + 1; omega) (by show s + 1 ≤ _; omega), sum_pr t U (s + 1) (by omega) (by omega), if_pos q]; omega
    · rw [show decide ((pr u).1 > t) = false from decide_eq_false q, cond_false, sum_pr t U s h0 (by omega), if_neg q]; omega
theorem apS_mk {j : Nat} {oc ps : List Value} {v : Vd} {B : List Value → Prop} (hn : NoNames (.cells ⟨ps⟩ 308 (1, 1))) (h : apT j oc v B) : apS j oc v ps B := by
  unfold apT at h
  unfold apS
  revert h
  cases (j + 1).ble j with
  | true => exact id
  | false =>
    cases (j + 1).ble 9223372036854775807 && ((j + 1) * 32).ble 140737488355328 with
    | false => exact id
    | true =>
      cases (0 + j * 3).ble (Array.mk oc).size && true && true with
      | false => exact id
      | true => exact fun h => ⟨h.1, hn, h.2⟩
theorem live_len (t : Int) (U : List Int) : 0 ≤ live t U ∧ live t U ≤ U.length := by
  unfold live
  have := List.length_filter_le (fun u => decide (t < u)) U
  omega
theorem rS {m p : Int} (hm : okM m) (hp : okPer p) : RoundOK [2, 7] (lmC keyB 2 m p 0) (HS m p) (stS m p) (fun U now => U.length ≤ 5 ∧ ∀ u ∈ U, u ≤ now + p) := by
  intro xs oc j U n i now t hg
  refine ⟨SRs, _, 3000, SRs_ok, ghost_body t 0, fun B Q h => ?_⟩
  refine (rpS1 xs oc ((U.map pr).flatMap pcC) j U.length m p 0 n i now t 1 0 B Q).mpr ?_
  have hm5 := okM_in hm
  have hp5 := okPer_in hp
  have hl : (U.map pr).length = U.length := List.length_map _
  have hrd : rdL U.length ((U.map pr).flatMap pcC) = U.map pr := by rw [← hl, rdL_flat]
  have hk : (Nat.beq U.length U.length && okC U.length ((U.map pr).flatMap pcC) && Nat.ble U.length 1000) = true := by
    rw [Nat.beq_refl, okC_iff.2 ⟨U.map pr, hl, rfl⟩, Nat.ble_eq_true_of_le (by omega)]; rfl
  have hlv := live_len t U
  rcases h with ⟨hA, hap⟩ | ⟨hn, hnn, hq⟩
  · have hsum : sumP t 0 (U.map pr) = live t U := by rw [sum_pr t U 0 (Int.le_refl _) (by omega)]; omega
    have ht0 := hA.pos
    have ht1 := hA.top
    have htp : IntKind.i64.wrap (t + p) = t + p := wrap_id _ (by omega) (by omega)
    refine rnd_at hA (need_mk hk ?_)
    unfold stS at hap
    rw [hrd]
    rw [hsum] at hap ⊢
    rw [wrap_id (m - live t U) (by omega) (by omega)]
    split at hap
    · rename_i q
      have hkp : kpL t U.length ((U.map pr).flatMap pcC) = (U.filter fun u => decide (t < u)).map pr := by unfold kpL; rw [hrd, filter_pr]
      refine pick_t (decide_eq_true q) (need_mk (by rw [hk]; rfl) ?_)
      rw [hkp, rdL_flat]
      have hfl : (U.filter fun u => decide (t < u)).length ≤ 5 := Nat.le_trans (List.length_filter_le _ _) hg.1
      refine need_mk ?_ ?_
      · rw [Nat.beq_refl, okC_iff.2 ⟨_, rfl, rfl⟩, Nat.ble_eq_true_of_le (by rw [List.length_map]; omega), htp, okLast_iff.2 ?_]; rfl
        intro q2 hq2
        obtain ⟨u, hu, rfl⟩ := List.mem_map.1 hq2
        have := hg.2 u ((List.mem_filter.1 hu).1)
        have := hA.le
        show u ≤ t + p
        omega
      · rw [htp]
        have e1 : (((U.filter fun u => decide (t < u)).map pr) ++ [(t + p, 1)]) = ((U.filter fun u => decide (t < u)) ++ [t + p]).map pr := by rw [List.map_append]; rfl
        have e2 : ((U.filter fun u => decide (t < u)).map pr).length + 1 = ((U.filter fun u => decide (t < u)) ++ [t + p]).length := by rw [List.length_map, List.length_append]; rfl
        rw [e1, e2]
        exact apS_mk (nnB _ _) hap
    · rename_i q
      refine pick_f (decide_eq_false q) (pick_t (decide_eq_true (by omega)) (need_mk hk ?_))
      exact apS_mk (nnB _ _) hap
  · exact rnd_end hn ⟨hnn, hq⟩
theorem fS {m p : Int} (hm : okM m) (hp : okPer p) : FirstOK [2, 7] (lmC keyB 2 m p 0) (HS m p) (stS m p) [] := by
  intro xs n i t
  have hm5 := okM_in hm
  have hp5 := okPer_in hp
  refine ⟨SRs, _, 3000, SRs_ok, ghost_body t 0, fun B Q h => ?_⟩
  refine (rpS0 xs m p 0 n i 0 t 1 0 B Q).mpr ?_
  rcases h with ⟨hA, hap⟩ | ⟨hn, hq⟩
  · have ht0 := hA.pos
    have ht1 := hA.top
    have e : stS m p [] t = (okVd, [t + p]) := if_pos (show 1 ≤ m - 0 by omega)
    rw [e] at hap
    rw [wrap_id (t + p) (by omega) (by omega)]
    exact rnd_at hA (v0_mk hm ⟨nnV [okVd] 42 (0, 0), nnB [(t + p, 1)] 308, hap⟩)
  · exact rnd_end hn hq
theorem gdS {m p : Int} (hm : okM m) : ∀ (U : List Int) (now t : Int), (U.length ≤ 5 ∧ ∀ u ∈ U, u ≤ now + p) → now ≤ t → 0 ≤ t → t ≤ 1000 → (stS m p U t).2.length ≤ 5 ∧ ∀ u ∈ (stS m p U t).2, u ≤ t + p := by
  intro U now t h h1 _ _
  have hm5 := okM_in hm
  unfold stS
  split
  · rename_i q
    have hlv : live t U = ((U.filter fun u => decide (t < u)).length : Int) := rfl
    refine ⟨?_, fun u hu => ?_⟩
    · show ((U.filter fun u => decide (t < u)) ++ [t + p]).length ≤ 5
      rw [List.length_append, List.length_singleton]
      omega
    · rcases List.mem_append.1 hu with k | k
      · have := h.2 u ((List.mem_filter.1 k).1); omega
      · rw [List.mem_singleton.1 k]; omega
  · exact ⟨h.1, fun u hu => by have := h.2 u hu; omega⟩
theorem runS_eq (m p : Int) : ∀ (L U : List Int), (runG (stS m p) U L).map (·.1) = runS m p U L
  | [], _ => rfl
  | t :: L, U => by
    rw [runG, List.map_cons, runS]
    by_cases q : 1 ≤ m - live t U
    · have e : stS m p U t = (okVd, (U.filter fun u => decide (t < u)) ++ [t + p]) := if_pos q
      rw [if_pos q, e, runS_eq m p L]; rfl
    · have e : stS m p U t = (noVd (waitP t (IntKind.i64.wrap (m - 1)) (sumP t 0 (U.map pr)) (U.map pr)), U) := if_neg q
      rw [if_neg q, e, runS_eq m p L]; rfl
end Go.Proofs.YteeomeididcdlaaGreatDoor
