/-
  Limits: right limits and asks, as they are drawn.
-/
import Derived.Test.YtbigicdojndnjaaGreatDoorBase
/-
  Limits: plain laws: no more is let in within a stretch of time than Room says.
-/
namespace LimLaw

/-- What is let in before a moment. -/
def cnt (T : Int) : List Int → List Bool → Int
  | t :: L, b :: B => (if b = true ∧ t < T then 1 else 0) + cnt T L B
  | _, _ => 0
/-- From each one on no more than R within a stretch. -/
def fair (long R : Int) : List Int → List Bool → Prop
  | t :: L, b :: B => cnt (t + long) (t :: L) (b :: B) ≤ R ∧ fair long R L B
  | _, _ => True
/-- Moments that do not fall, from t on. -/
def up_ (t : Int) : List Int → Prop
  | [] => True
  | x :: L => t ≤ x ∧ up_ x L
theorem up_le : ∀ {L : List Int} {t : Int}, up_ t L → ∀ {s : Int}, s ≤ t → up_ s L
  | [], _, _, _, _ => trivial
  | _ :: _, _, h, _, hs => ⟨Int.le_trans hs h.1, h.2⟩
theorem cnt_zero {T : Int} : ∀ {L : List Int} {t : Int} (B : List Bool), up_ t L → T ≤ t → cnt T L B = 0
  | [], _, B, _, _ => by cases B <;> rfl
  | x :: L, t, [], _, _ => rfl
  | x :: L, t, b :: B, h, ht => by
    have := h.1
    rw [cnt, if_neg (by omega), cnt_zero B h.2 (by omega)]; rfl

/-- Divided, rounded up. -/
def up (a b : Int) : Int := if a % b = 0 then a / b else a / b + 1

/-! windows -/
def usedW (per a n t : Int) : Int := if t / per = a then n else 0
def runW (M per : Int) : Int → Int → List Int → List Bool
  | _, _, [] => []
  | a, n, t :: L => if 1 ≤ M - usedW per a n t then true :: runW M per (t / per) (usedW per a n t + 1) L else false :: runW M per a n L
def okM (M : Int) : Prop := M = 1 ∨ M = 2 ∨ M = 3 ∨ M = 5
def okPer (p : Int) : Prop := p = 1 ∨ p = 7 ∨ p = 10 ∨ p = 50 ∨ p = 100
theorem div_mono {per a b : Int} (hp : okPer per) (h : a ≤ b) : a / per ≤ b / per := by
  rcases hp with rfl | rfl | rfl | rfl | rfl <;> omega
theorem runW_cnt {M per : Int} (hM : okM M) (hp : okPer per) (T : Int) : ∀ (L : List Int) (a n t0 : Int), 0 ≤ n → n ≤ M → a = t0 / per → up_ t0 L → t0 < T → cnt T L (runW M per a n L) ≤ M * ((T - 1) / per - a) + (M - n)
  | [], a, n, t0, h0, h1, ha, hu, hT => by
    have := div_mono hp (show t0 ≤ T - 1 by omega)
    rcases hM with rfl | rfl | rfl | rfl <;> simp only [cnt] <;> omega
  | t :: L, a, n, t0, h0, h1, ha, hu, hT => by
    have m1 := div_mono hp (show t0 ≤ T - 1 by omega)
    have m2 := div_mono hp hu.1
    by_cases ht : t < T
    · have m3 := div_mono hp (show t ≤ T - 1 by omega)
      unfold runW
      by_cases hw : t / per = a
      · have hused : usedW per a n t = n := if_pos hw
        rw [hused]
        split
        · have := runW_cnt hM hp T L (t / per) (n + 1) t (by omega) (by omega) rfl hu.2 ht
          rw [cnt, if_pos ⟨rfl, ht⟩]
          rcases hM with rfl | rfl | rfl | rfl <;> omega
        · have := runW_cnt hM hp T L a n t h0 h1 hw.symm hu.2 ht
          rw [cnt, if_neg (by simp)]
          omega
      · have hused : usedW per a n t = 0 := if_neg hw
        rw [hused]
        have h1M : 1 ≤ M := by rcases hM with rfl | rfl | rfl | rfl <;> omega
        rw [if_pos (by omega)]
        have := runW_cnt hM hp T L (t / per) (0 + 1) t (by omega) (by omega) rfl hu.2 ht
        rw [cnt, if_pos ⟨rfl, ht⟩]
        rcases hM with rfl | rfl | rfl | rfl <;> omega
    · have h0' := cnt_zero (T := T) (L := t :: L) (t := t) (runW M per a n (t :: L)) ⟨Int.le_refl _, hu.2⟩ (by omega)
      rw [h0']
      rcases hM with rfl | rfl | rfl | rfl <;> omega
def roomW (M per long : Int) : Int := M * (1 + up (long - 1) per)
theorem win_many {per long t : Int} (hp : okPer per) (_ : 1 ≤ long) : (t + long - 1) / per - t / per ≤ up (long - 1) per := by
  unfold up
  rcases hp with rfl | rfl | rfl | rfl | rfl <;> split <;> omega
theorem fairW {M per long : Int} (hM : okM M) (hp : okPer per) (hl : 1 ≤ long) : ∀ (L : List Int) (a n t0 : Int), 0 ≤ n → n ≤ M → a = t0 / per → up_ t0 L → fair long (roomW M per long) L (runW M per a n L)
  | [], _, _, _, _, _, _, _ => trivial
  | t :: L, a, n, t0, h0, h1, ha, hu => by
    have h1M : 1 ≤ M := by rcases hM with rfl | rfl | rfl | rfl <;> omega
    have hw := win_many (t := t) hp hl
    have key : ∀ n', 0 ≤ n' → n' ≤ M → cnt (t + long) (t :: L) (runW M per (t / per) n' (t :: L)) ≤ roomW M per long := by
      intro n' q0 q1
      have := runW_cnt hM hp (t + long) (t :: L) (t / per) n' t q0 q1 rfl ⟨Int.le_refl _, hu.2⟩ (by omega)
      unfold roomW
      rcases hM with rfl | rfl | rfl | rfl <;> omega
    by_cases hwa : t / per = a
    · have k := key n h0 h1
      rw [hwa] at k
      have hused : usedW per a n t = n := if_pos hwa
      unfold runW at k ⊢
      rw [hused] at k ⊢
      split at k
      · rw [if_pos (by assumption)]
        exact ⟨k, fairW hM hp hl L (t / per) (n + 1) t (by omega) (by omega) rfl hu.2⟩
      · rw [if_neg (by assumption)]
        exact ⟨k, fairW hM hp hl L a n t h0 h1 hwa.symm hu.2⟩
    · have k := key 0 (by omega) (by omega)
      have hused : usedW per a n t = 0 := if_neg hwa
      have hused2 : usedW per (t / per) 0 t = 0 := if_pos rfl
      unfold runW at k ⊢
      rw [hused2] at k
      rw [hused]
      rw [if_pos (by omega)] at k ⊢
      exact ⟨k, fairW hM hp hl L (t / per) (0 + 1) t (by omega) (by omega) rfl hu.2⟩

/-! sliding -/
def live (t : Int) (U : List Int) : Int := ((U.filter fun u => decide (t < u)).length : Int)
def runS (M per : Int) : List Int → List Int → List Bool
  | _, [] => []
  | U, t :: L => if 1 ≤ M - live t U then true :: runS M per ((U.filter fun u => decide (t < u)) ++ [t + per]) L else false :: runS M per U L
def cnt2 (a T : Int) : List Int → List Bool → Int
  | t :: L, b :: B => (if b = true ∧ a ≤ t ∧ t < T then 1 else 0) + cnt2 a T L B
  | _, _ => 0
theorem live_mono {s t : Int} (h : s ≤ t) : ∀ U : List Int, live t U ≤ live s U
  | [] => Int.le_refl _
  | u :: U => by
    have := live_mono h U
    unfold live at this ⊢
    simp only [List.filter_cons]
    by_cases h1 : t < u
    · rw [if_pos (by simpa using h1), if_pos (by simp; omega), List.length_cons, List.length_cons]; omega
    · rw [if_neg (by simpa using h1)]
      split
      · rw [List.length_cons]; omega
      · omega
theorem live_app (t u : Int) (U : List Int) : live t (U ++ [u]) = live t U + (if t < u then 1 else 0) := by
  unfold live
  rw [List.filter_append, List.length_append]
  by_cases h : t < u
  · rw [if_pos h, List.filter_cons, if_pos (by simpa using h)]; simp
  · rw [if_neg h, List.filter_cons, if_neg (by simpa using h)]; simp
theorem live_filter {s t : Int} (h : s ≤ t) : ∀ U : List Int, live t (U.filter fun u => decide (s < u)) = live t U
  | [] => rfl
  | u :: U => by
    have ih := live_filter h U
    unfold live at ih ⊢
    by_cases h1 : s < u
    · rw [List.filter_cons, if_pos (by simpa using h1), List.filter_cons, List.filter_cons]
      split
      · rw [List.length_cons, List.length_cons]; omega
      · exact ih
    · rw [List.filter_cons, if_neg (by simpa using h1), ih, List.filter_cons, if_neg (by simp; omega)]
theorem cnt2_zero {a T : Int} : ∀ {L : List Int} {t : Int} (B : List Bool), up_ t L → T ≤ t → cnt2 a T L B = 0
  | [], _, B, _, _ => by cases B <;> rfl
  | x :: L, t, [], _, _ => rfl
  | x :: L, t, b :: B, h, ht => by
    have := h.1
    rw [cnt2, if_neg (by omega), cnt2_zero B h.2 (by omega)]; rfl
theorem runS_cnt {M per a : Int} (hper : 1 ≤ per) : ∀ (L : List Int) (U : List Int) (t0 : Int), up_ t0 L → live t0 U ≤ M → t0 < a + per → cnt2 a (a + per) L (runS M per U L) + live (a + per - 1) U ≤ M
  | [], U, t0, hu, hl, ht => by
    have := live_mono (show t0 ≤ a + per - 1 by omega) U
    simp only [cnt2]; omega
  | t :: L, U, t0, hu, hl, ht => by
    have l1 := live_mono (show t0 ≤ a + per - 1 by omega) U
    have l2 := live_mono hu.1 U
    by_cases h : t < a + per
    · unfold runS
      split
      · have e1 : live t (List.filter (fun u => decide (t < u)) U ++ [t + per]) = live t U + 1 := by
          rw [live_app, live_filter (Int.le_refl _), if_pos (by omega)]
        have e2 : live (a + per - 1) (List.filter (fun u => decide (t < u)) U ++ [t + per]) = live (a + per - 1) U + (if a ≤ t then 1 else 0) := by
          rw [live_app, live_filter (by omega)]
          congr 1
          by_cases q : a ≤ t
          · rw [if_pos q, if_pos (by omega)]
          · rw [if_neg q, if_neg (by omega)]
        have := runS_cnt (M := M) (per := per) (a := a) hper L (List.filter (fun u => decide (t < u)) U ++ [t + per]) t hu.2 (by omega) h
        rw [e2] at this
        rw [cnt2]
        by_cases q : a ≤ t
        · rw [if_pos ⟨rfl, q, h⟩]; rw [if_pos q] at this; omega
        · rw [if_neg (fun x => q x.2.1)]; rw [if_neg q] at this; omega
      · have := runS_cnt (M := M) (per := per) (a := a) hper L U t hu.2 (by omega) h
        rw [cnt2, if_neg (by simp)]
        omega
    · rw [cnt2_zero (L := t :: L) (t := t) _ ⟨Int.le_refl _, hu.2⟩ (by omega)]
      omega
theorem cnt2_add {a b c : Int} (h1 : a ≤ b) (h2 : b ≤ c) : ∀ (L : List Int) (B : List Bool), cnt2 a c L B = cnt2 a b L B + cnt2 b c L B
  | [], B => by cases B <;> rfl
  | _ :: _, [] => rfl
  | t :: L, x :: B => by
    rw [cnt2, cnt2, cnt2, cnt2_add h1 h2 L B]
    cases x with
    | false => simp
    | true =>
      by_cases q1 : a ≤ t
      · by_cases q2 : t < b
        · rw [if_pos ⟨rfl, q1, by omega⟩, if_pos ⟨rfl, q1, q2⟩, if_neg (by omega)]; omega
        · by_cases q3 : t < c
          · rw [if_pos ⟨rfl, q1, q3⟩, if_neg (by omega), if_pos ⟨rfl, by omega, q3⟩]; omega
          · rw [if_neg (by omega), if_neg (by omega), if_neg (by omega)]; omega
      · rw [if_neg (by omega), if_neg (by omega), if_neg (by omega)]; omega
theorem cnt2_mono {a T T2 : Int} (h : T ≤ T2) : ∀ (L : List Int) (B : List Bool), cnt2 a T L B ≤ cnt2 a T2 L B
  | [], B => by cases B <;> exact Int.le_refl _
  | _ :: _, [] => Int.le_refl _
  | t :: L, x :: B => by
    have := cnt2_mono (a := a) h L B
    rw [cnt2, cnt2]
    split
    · rename_i q
      rw [if_pos ⟨q.1, q.2.1, by omega⟩]; omega
    · split <;> omega
theorem cnt_cnt2 {T : Int} : ∀ (L : List Int) (t : Int) (B : List Bool), up_ t L → cnt T L B = cnt2 t T L B
  | [], t, B, _ => by cases B <;> rfl
  | _ :: _, _, [], _ => rfl
  | x :: L, t, b :: B, h => by
    rw [cnt, cnt2, cnt_cnt2 L t B (up_le h.2 h.1)]
    have := h.1
    by_cases q : b = true ∧ x < T
    · rw [if_pos q, if_pos ⟨q.1, this, q.2⟩]
    · rw [if_neg q, if_neg (fun z => q ⟨z.1, z.2.2⟩)]
theorem runS_many {M per t : Int} (hper : 1 ≤ per) (L U : List Int) (hu : up_ t L) (hl : live t U ≤ M) : ∀ m : Nat, cnt2 t (t + m * per) L (runS M per U L) ≤ m * M
  | 0 => by
    have : ∀ (L : List Int) (B : List Bool), cnt2 t (t + ((0 : Nat) : Int) * per) L B = 0 := by
      intro L
      induction L with
      | nil => intro B; cases B <;> rfl
      | cons x L ih =>
        intro B
        cases B with
        | nil => rfl
        | cons b B => rw [cnt2, ih B, if_neg (by simp)]; simp
    rw [this]; simp
  | m + 1 => by
    have ih := runS_many hper L U hu hl m
    have hm : 0 ≤ (m : Int) * per := Int.mul_nonneg (by omega) (by omega)
    have e : t + ((m + 1 : Nat) : Int) * per = t + m * per + per := by rw [Int.natCast_succ, Int.add_mul]; omega
    have k := runS_cnt (M := M) (per := per) (a := t + m * per) hper L U t hu hl (by omega)
    have l0 : 0 ≤ live (t + m * per + per - 1) U := by unfold live; omega
    rw [e, cnt2_add (b := t + m * per) (by omega) (by omega), Int.natCast_succ, Int.add_mul]
    omega
def roomS (M per long : Int) : Int := M * up long per
theorem fairS {M per long : Int} (hM : okM M) (hp : okPer per) (hl : 1 ≤ long) : ∀ (L U : List Int) (t0 : Int), live t0 U ≤ M → up_ t0 L → fair long (roomS M per long) L (runS M per U L)
  | [], _, _, _, _ => trivial
  | t :: L, U, t0, h1, hu => by
    have hper : 1 ≤ per := by rcases hp with rfl | rfl | rfl | rfl | rfl <;> omega
    have l2 := live_mono hu.1 U
    have hup : 0 ≤ up long per ∧ long ≤ up long per * per := by
      unfold up
      rcases hp with rfl | rfl | rfl | rfl | rfl <;> split <;> omega
    have k : cnt (t + long) (t :: L) (runS M per U (t :: L)) ≤ roomS M per long := by
      rw [cnt_cnt2 (t :: L) t _ ⟨Int.le_refl _, hu.2⟩]
      have e : ((up long per).toNat : Int) = up long per := Int.toNat_of_nonneg hup.1
      have := runS_many (M := M) hper (t :: L) U (t := t) ⟨Int.le_refl _, hu.2⟩ (by omega) (up long per).toNat
      rw [e] at this
      have := cnt2_mono (a := t) (show t + long ≤ t + up long per * per by omega) (t :: L) (runS M per U (t :: L))
      unfold roomS
      rw [Int.mul_comm]
      omega
    unfold runS at k ⊢
    split
    · rename_i q
      rw [if_pos q] at k
      refine ⟨k, fairS hM hp hl L _ t ?_ hu.2⟩
      rw [live_app, live_filter (Int.le_refl _), if_pos (by omega)]
      omega
    · rename_i q
      rw [if_neg q] at k
      exact ⟨k, fairS hM hp hl L U t (by omega) hu.2⟩

/-! bucket -/
def okBu (b : Int) : Prop := b = 1 ∨ b = 2 ∨ b = 5
/-- The level at a moment; f: a full one. -/
def nowB (M f a l t : Int) : Int := if up (f - l) M ≤ t - a then f else l + M * (t - a)
def runB (M per f : Int) : Int → Int → List Int → List Bool
  | _, _, [] => []
  | a, l, t :: L => if 1 ≤ nowB M f a l t / per then true :: runB M per f t (nowB M f a l t - per) L else false :: runB M per f a l L
theorem nowB_min {M f a l t : Int} (hM : okM M) (_ : l ≤ f) (_ : a ≤ t) : nowB M f a l t = min f (l + M * (t - a)) := by
  unfold nowB up
  rcases hM with rfl | rfl | rfl | rfl <;> split <;> split <;> omega
/-- Room's play: level and sum before a moment, all taken at each one. -/
def sim (M per f : Int) : Nat → Int × Int
  | 0 => (f, 0)
  | n + 1 => let s := sim M per f n
    (min f (s.1 - per * (s.1 / per) + M), s.2 + s.1 / per)
theorem sim_in {M per f : Int} (hM : okM M) (hp : okPer per) (hf : 0 ≤ f) : ∀ n, 0 ≤ (sim M per f n).1 ∧ (sim M per f n).1 ≤ f ∧ 0 ≤ (sim M per f n).2
  | 0 => ⟨hf, Int.le_refl _, Int.le_refl _⟩
  | n + 1 => by
    obtain ⟨h1, h2, h3⟩ := sim_in hM hp hf n
    unfold sim
    simp only
    generalize (sim M per f n).1 = x at *
    generalize (sim M per f n).2 = y at *
    rcases hM with rfl | rfl | rfl | rfl <;> rcases hp with rfl | rfl | rfl | rfl | rfl <;> omega
/-- What was let in is no more than the play's sum, one moment and d more. -/
theorem sim_gap {M per f c l : Int} (hM : okM M) (hp : okPer per) (hf : 0 ≤ f) (h0 : 0 ≤ l) (hlf : l ≤ f) (s : Nat) (h : per * c + l ≤ per * (sim M per f s).2 + (sim M per f s).1) :
    ∀ d : Nat, per * c + min f (l + M * d) ≤ per * (sim M per f (s + d)).2 + (sim M per f (s + d)).1
  | 0 => by
    have : min f (l + M * ((0 : Nat) : Int)) = l := by simp; omega
    rw [this]; exact h
  | d + 1 => by
    have ih := sim_gap hM hp hf h0 hlf s h d
    obtain ⟨k1, k2, k3⟩ := sim_in hM hp hf (s + d)
    have hs : sim M per f (s + (d + 1)) = (min f ((sim M per f (s + d)).1 - per * ((sim M per f (s + d)).1 / per) + M), (sim M per f (s + d)).2 + (sim M per f (s + d)).1 / per) := rfl
    rw [hs]
    simp only
    generalize (sim M per f (s + d)).1 = x at *
    generalize (sim M per f (s + d)).2 = y at *
    rw [Int.natCast_succ]
    rcases hM with rfl | rfl | rfl | rfl <;> rcases hp with rfl | rfl | rfl | rfl | rfl <;> omega
theorem sim_mono {M per f : Int} (hM : okM M) (hp : okPer per) (hf : 0 ≤ f) (s : Nat) : ∀ d : Nat, (sim M per f s).2 ≤ (sim M per f (s + d)).2
  | 0 => Int.le_refl _
  | d + 1 => by
    have := sim_mono hM hp hf s d
    obtain ⟨k1, _, _⟩ := sim_in hM hp hf (s + d)
    have e : (sim M per f (s + (d + 1))).2 = (sim M per f (s + d)).2 + (sim M per f (s + d)).1 / per := rfl
    rw [e]
    generalize (sim M per f (s + d)).1 = x at *
    rcases hp with rfl | rfl | rfl | rfl | rfl <;> omega
theorem sim_top {M per f c l : Int} (hM : okM M) (hp : okPer per) (hf : 0 ≤ f) (h0 : 0 ≤ l) {s : Nat} (h : per * c + l ≤ per * (sim M per f s).2 + (sim M per f s).1) : c ≤ (sim M per f (s + 1)).2 := by
  obtain ⟨k1, k2, k3⟩ := sim_in hM hp hf s
  have e : (sim M per f (s + 1)).2 = (sim M per f s).2 + (sim M per f s).1 / per := rfl
  rw [e]
  generalize (sim M per f s).1 = x at *
  generalize (sim M per f s).2 = y at *
  rcases hp with rfl | rfl | rfl | rfl | rfl <;> omega
/-- From a moment t0 + s on, with c let in before. -/
theorem runB_cnt {M per f t0 T : Int} (hM : okM M) (hp : okPer per) (hf : 0 ≤ f) {n : Nat} (hT : T = t0 + n) (hn : 1 ≤ n) : ∀ (L : List Int) (a l c : Int) (s : Nat), a = t0 + s → s < n → 0 ≤ l → l ≤ f → up_ a L → per * c + l ≤ per * (sim M per f s).2 + (sim M per f s).1 →
    c + cnt T L (runB M per f a l L) ≤ (sim M per f n).2
  | [], a, l, c, s, ha, hs, h0, hl, hu, h => by
    have h1 := sim_top hM hp hf h0 h
    have h2 := sim_mono hM hp hf (s + 1) (n - (s + 1))
    rw [show s + 1 + (n - (s + 1)) = n by omega] at h2
    simp only [cnt]; omega
  | t :: L, a, l, c, s, ha, hs, h0, hl, hu, h => by
    by_cases ht : t < T
    · have hst := hu.1
      obtain ⟨d, hd⟩ : ∃ d : Nat, t = a + d := ⟨(t - a).toNat, by omega⟩
      have hg := sim_gap hM hp hf h0 hl s h d
      have hnow := nowB_min (f := f) (l := l) hM hl hst
      have e : t - a = (d : Int) := by omega
      rw [e] at hnow
      have hm0 : 0 ≤ min f (l + M * (d : Int)) := by rcases hM with rfl | rfl | rfl | rfl <;> omega
      have hmf : min f (l + M * (d : Int)) ≤ f := by omega
      rw [← hnow] at hg hm0 hmf
      unfold runB
      split
      · rename_i q
        have hq : per ≤ nowB M f a l t := by
          generalize nowB M f a l t = x at *
          rcases hp with rfl | rfl | rfl | rfl | rfl <;> omega
        have := runB_cnt (M := M) (per := per) hM hp hf hT hn L t (nowB M f a l t - per) (c + 1) (s + d) (by omega) (by omega) (by omega) (by rcases hp with rfl | rfl | rfl | rfl | rfl <;> omega) hu.2 (by rw [Int.mul_add]; omega)
        rw [cnt, if_pos ⟨rfl, ht⟩]
        omega
      · have := runB_cnt (M := M) (per := per) hM hp hf hT hn L a l c s ha hs h0 hl (up_le hu.2 hst) h
        rw [cnt, if_neg (by simp)]
        omega
    · have h1 := sim_top hM hp hf h0 h
      have h2 := sim_mono hM hp hf (s + 1) (n - (s + 1))
      rw [show s + 1 + (n - (s + 1)) = n by omega] at h2
      rw [cnt_zero (L := t :: L) (t := t) _ ⟨Int.le_refl _, hu.2⟩ (by omega)]
      omega
/-- The level told at another moment. -/
theorem runB_at {M per f a l b : Int} (hM : okM M) (hl : l ≤ f) (hab : a ≤ b) : ∀ (L : List Int), up_ b L → runB M per f a l L = runB M per f b (nowB M f a l b) L
  | [], _ => rfl
  | t :: L, hu => by
    have hb := nowB_min (f := f) (l := l) (t := b) hM hl hab
    have ha := nowB_min (f := f) (l := l) (t := t) hM hl (Int.le_trans hab hu.1)
    have hc := nowB_min (f := f) (l := nowB M f a l b) (a := b) (t := t) hM (by rw [hb]; omega) hu.1
    have e : nowB M f a l t = nowB M f b (nowB M f a l b) t := by
      have := hu.1
      rw [ha, hc, hb]
      rcases hM with rfl | rfl | rfl | rfl <;> omega
    unfold runB
    rw [← e, runB_at hM hl hab L (up_le hu.2 hu.1)]
theorem fairB {M per f long : Int} (hM : okM M) (hp : okPer per) (hf : 0 ≤ f) (hl : 1 ≤ long) : ∀ (L : List Int) (a l : Int), 0 ≤ l → l ≤ f → up_ a L → fair long (sim M per f long.toNat).2 L (runB M per f a l L)
  | [], _, _, _, _, _ => trivial
  | t :: L, a, l, h0, h1, hu => by
    have hnow := nowB_min (f := f) (l := l) (t := t) hM h1 hu.1
    have hn0 : 0 ≤ nowB M f a l t := by
      have := hu.1
      rw [hnow]
      rcases hM with rfl | rfl | rfl | rfl <;> omega
    have hn1 : nowB M f a l t ≤ f := by rw [hnow]; omega
    have k := runB_cnt (T := t + long) (t0 := t) hM hp hf (n := long.toNat) (by omega) (by omega) (t :: L) t (nowB M f a l t) 0 0 (by simp) (by omega) hn0 hn1 ⟨Int.le_refl _, hu.2⟩ (by show per * 0 + _ ≤ per * 0 + f; omega)
    rw [← runB_at hM h1 hu.1 (t :: L) ⟨Int.le_refl _, hu.2⟩, Int.zero_add] at k
    unfold runB at k ⊢
    split
    · rename_i q
      rw [if_pos q] at k
      have hq : per ≤ nowB M f a l t := by
        generalize nowB M f a l t = x at *
        rcases hp with rfl | rfl | rfl | rfl | rfl <;> omega
      exact ⟨k, fairB hM hp hf hl L t (nowB M f a l t - per) (by omega) (by rcases hp with rfl | rfl | rfl | rfl | rfl <;> omega) hu.2⟩
    · rename_i q
      rw [if_neg q] at k
      exact ⟨k, fairB hM hp hf hl L a l h0 h1 (up_le hu.2 hu.1)⟩
end LimLaw

namespace Go.Proofs.YtbigicdojndnjaaGreatDoor
open Go.Ev Go.RowKit LimLaw

noncomputable def eqV (a b : Value) : Bool := @decide (a = b) (Classical.propDecidable _)
theorem eqV_eq {a b : Value} (h : eqV a b = true) : a = b := @of_decide_eq_true (a = b) (Classical.propDecidable _) h
theorem eqV_self (a : Value) : eqV a a = true := @decide_eq_true (a = a) (Classical.propDecidable _) rfl
def gS (l : List Value) (r : Int) : ByteArray := toStr (l.getD (0 + r.toNat * 1) (Value.tuple { toList := [] }))
def gI (l : List Value) (r : Int) : Int := toInt (l.getD (0 + r.toNat * 1) (Value.tuple { toList := [] }))
noncomputable def dr (xs : Array Value) (d : Int) (X : Prop) : Prop := bif decide (0 ≤ d) && decide (d ≤ 1000000) && true && true && true && allInts xs then X else False
noncomputable def rg (r m : Int) (k : Nat) (X : Prop) : Prop := bif decide (0 ≤ r) && decide (r < m) then bif (0 + r.toNat * 1).blt k then X else False else False
theorem dr_mk {zs : List Int} {d : Int} (h0 : 0 ≤ d) (h1 : d ≤ 1000000) {X : Prop} (hX : X) : dr (intsV zs) d X := need_mk (by rw [allInts_intsV]; simp [h0, h1]) hX
theorem rg_mk {zs : List Int} {d m : Int} {k : Nat} (h0 : 0 ≤ d) (h1 : d ≤ 1000000) (hm : m = (k : Int)) (hk : 1 ≤ m ∧ m ≤ 100) {X : Prop} (hX : X) : rg (nextR (intsV zs) d m) m k X := by
  have hb := (nextR_spec zs m d h0 h1 hk.1 (by omega)).1
  refine need_mk (by simp [hb.1, hb.2]) (need_mk ?_ hX)
  rw [Nat.blt, Nat.ble_eq]; omega
theorem nx_in (zs : List Int) {d m : Int} (h0 : 0 ≤ d) (h1 : d ≤ 1000000) (h2 : 1 ≤ m) (h3 : m ≤ 1000) : 0 ≤ nextR (intsV zs) d m ∧ nextR (intsV zs) d m < m := (nextR_spec zs m d h0 h1 h2 (by omega)).1

/-! RightLimit -/
def lmC (k : ByteArray) (c m p b : Int) : List Value := [.string k, .int .i64 c, .int .i64 m, .int .i64 p, .int .i64 b]
def lmV (k : ByteArray) (c m p b : Int) : Value := .agg ⟨lmC k c m p b⟩
def moL : List Value := [.int .i64 1, .int .i64 2, .int .i64 3, .int .i64 5]
def peL : List Value := [.int .i64 1, .int .i64 7, .int .i64 10, .int .i64 50, .int .i64 100]
def buL : List Value := [.int .i64 1, .int .i64 2, .int .i64 5]
noncomputable def rlT (xs : Array Value) (d : Int) (k : ByteArray) (Q : Value → Option Obj → Prop) : Prop :=
  dr xs d (dr xs (d + 1) (rg (nextR xs (d + 1) 4) 4 4 (dr xs (d + 1 + 1) (rg (nextR xs (d + 1 + 1) 5) 5 5 (
    bif IntKind.i64.wrap (1 + nextR xs d 4) == 3 then dr xs (d + 1 + 1 + 1) (rg (nextR xs (d + 1 + 1 + 1) 3) 3 3
      (Q (lmV k (IntKind.i64.wrap (1 + nextR xs d 4)) (gI moL (nextR xs (d + 1) 4)) (gI peL (nextR xs (d + 1 + 1) 5)) (gI buL (nextR xs (d + 1 + 1 + 1) 3))) (some (strm xs (d + 1 + 1 + 1 + 1)))))
    else bif IntKind.i64.wrap (1 + nextR xs d 4) == 4 then Q (lmV k (IntKind.i64.wrap (1 + nextR xs d 4)) (gI moL (nextR xs (d + 1) 4)) 0 0) (some (strm xs (d + 1 + 1 + 1)))
    else Q (lmV k (IntKind.i64.wrap (1 + nextR xs d 4)) (gI moL (nextR xs (d + 1) 4)) (gI peL (nextR xs (d + 1 + 1) 5)) 0) (some (strm xs (d + 1 + 1 + 1))))))))
theorem rl (xs : Array Value) (d : Int) (k : ByteArray) (Q : Value → Option Obj → Prop) : ffn Tryz.prog SI [] 900 [] Tryz.f15 [.pointer (some ⟨0, 0, none⟩), .string k] (Ev.h1 (strm xs d)) (fun v h => Q v (h.get 0)) = rlT xs d k Q := by kernel_rfl
/-- What a limit is that is drawn. -/
def okL (c m p b : Int) : Prop := okM m ∧ ((c = 1 ∧ okPer p ∧ b = 0) ∨ (c = 2 ∧ okPer p ∧ b = 0) ∨ (c = 3 ∧ okPer p ∧ okBu b) ∨ (c = 4 ∧ p = 0 ∧ b = 0))
theorem mo_in {r : Int} (h0 : 0 ≤ r) (h1 : r < 4) : okM (gI moL r) := by
  have : r = 0 ∨ r = 1 ∨ r = 2 ∨ r = 3 := by omega
  rcases this with rfl | rfl | rfl | rfl <;> unfold okM <;> decide +kernel
theorem pe_in {r : Int} (h0 : 0 ≤ r) (h1 : r < 5) : okPer (gI peL r) := by
  have : r = 0 ∨ r = 1 ∨ r = 2 ∨ r = 3 ∨ r = 4 := by omega
  rcases this with rfl | rfl | rfl | rfl | rfl <;> unfold okPer <;> decide +kernel
theorem bu_in {r : Int} (h0 : 0 ≤ r) (h1 : r < 3) : okBu (gI buL r) := by
  have : r = 0 ∨ r = 1 ∨ r = 2 := by omega
  rcases this with rfl | rfl | rfl <;> unfold okBu <;> decide +kernel
theorem rl_ex (zs : List Int) (k : ByteArray) {d : Int} (h0 : 0 ≤ d) (h1 : d ≤ 100000) : ∃ c m p b d', okL c m p b ∧ d ≤ d' ∧ d' ≤ d + 4 ∧ ∀ Q : Value → Option Obj → Prop, Q (lmV k c m p b) (some (strm (intsV zs) d')) → rlT (intsV zs) d k Q := by
  have b0 := nx_in zs (m := 4) h0 (by omega) (by omega) (by omega)
  have b1 := nx_in zs (m := 4) (d := d + 1) (by omega) (by omega) (by omega) (by omega)
  have b2 := nx_in zs (m := 5) (d := d + 1 + 1) (by omega) (by omega) (by omega) (by omega)
  have b3 := nx_in zs (m := 3) (d := d + 1 + 1 + 1) (by omega) (by omega) (by omega) (by omega)
  have hw : IntKind.i64.wrap (1 + nextR (intsV zs) d 4) = 1 + nextR (intsV zs) d 4 := wrap_id _ (by omega) (by omega)
  have hm := mo_in b1.1 b1.2
  have hp := pe_in b2.1 b2.2
  by_cases q3 : 1 + nextR (intsV zs) d 4 = 3
  · refine ⟨_, _, _, _, d + 1 + 1 + 1 + 1, ⟨hm, .inr (.inr (.inl ⟨q3, hp, bu_in b3.1 b3.2⟩))⟩, by omega, by omega, fun Q hQ => ?_⟩
    refine dr_mk h0 (by omega) (dr_mk (by omega) (by omega) (rg_mk (by omega) (by omega) rfl (by decide) (dr_mk (by omega) (by omega) (rg_mk (by omega) (by omega) rfl (by decide) ?_))))
    rw [hw]
    exact pick_t (by rw [q3]; rfl) (dr_mk (by omega) (by omega) (rg_mk (by omega) (by omega) rfl (by decide) hQ))
  · by_cases q4 : 1 + nextR (intsV zs) d 4 = 4
    · refine ⟨_, _, 0, 0, d + 1 + 1 + 1, ⟨hm, .inr (.inr (.inr ⟨q4, rfl, rfl⟩))⟩, by omega, by omega, fun Q hQ => ?_⟩
      refine dr_mk h0 (by omega) (dr_mk (by omega) (by omega) (rg_mk (by omega) (by omega) rfl (by decide) (dr_mk (by omega) (by omega) (rg_mk (by omega) (by omega) rfl (by decide) ?_))))
      rw [hw]
      exact pick_f (beq_eq_false_iff_ne.2 q3) (pick_t (by rw [q4]; rfl) hQ)
    · refine ⟨1 + nextR (intsV zs) d 4, gI moL (nextR (intsV zs) (d + 1) 4), gI peL (nextR (intsV zs) (d + 1 + 1) 5), 0, d + 1 + 1 + 1, ⟨hm, ?_⟩, by omega, by omega, fun Q hQ => ?_⟩
      · have : 1 + nextR (intsV zs) d 4 = 1 ∨ 1 + nextR (intsV zs) d 4 = 2 := by omega
        rcases this with q | q
        · exact .inl ⟨q, hp, rfl⟩
        · exact .inr (.inl ⟨q, hp, rfl⟩)
      refine dr_mk h0 (by omega) (dr_mk (by omega) (by omega) (rg_mk (by omega) (by omega) rfl (by decide) (dr_mk (by omega) (by omega) (rg_mk (by omega) (by omega) rfl (by decide) ?_))))
      rw [hw]
      exact pick_f (beq_eq_false_iff_ne.2 q3) (pick_f (beq_eq_false_iff_ne.2 q4) hQ)
theorem someRL : Tryz.f15.body.isSome = true := by kernel_rfl
theorem rl_fn {zs : List Int} {k : ByteArray} {d d' c m p b : Int} (h : ∀ Q : Value → Option Obj → Prop, Q (lmV k c m p b) (some (strm (intsV zs) d')) → rlT (intsV zs) d k Q) :
    FnOK 1 Tryz.prog 15 ⟨[.pointer (some ⟨0, 0, none⟩), .string k]⟩ (Ev.h1 (strm (intsV zs) d)) (fun v g => v = lmV k c m p b ∧ g.get 0 = some (strm (intsV zs) d')) :=
  FnOK.ftree SI_ok mixed Tryz.func15 someRL (rl (intsV zs) d k (fun v o => v = lmV k c m p b ∧ o = some (strm (intsV zs) d'))) (h _ ⟨rfl, rfl⟩)

def annB : ByteArray := ⟨#[97, 110, 110]⟩
theorem wrap1 {i : Nat} (h : i ≤ 100000) : IntKind.i64.wrap ((i : Int) + 1) = ((i + 1 : Nat) : Int) := by rw [wrap_id _ (by omega) (by omega)]; rfl
end Go.Proofs.YtbigicdojndnjaaGreatDoor
