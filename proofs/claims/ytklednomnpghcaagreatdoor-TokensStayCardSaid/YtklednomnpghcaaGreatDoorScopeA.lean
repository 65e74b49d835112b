/-
  Scopes: what covers what, rising lists; the functions isScope and covers of the program by their closed runs over the ten scopes.
-/
import Derived.Test.YtklednomnpghcaaGreatDoorBase
import Derived.Lib.SlicesCompact
namespace ScopeLaw
variable {α : Type} [DecidableEq α]

/-- What is asked of covering, over some scopes. -/
structure Cov (F : List α) (cov : α → α → Bool) : Prop where
  refl : ∀ x ∈ F, cov x x = true
  trans : ∀ x ∈ F, ∀ y ∈ F, ∀ z ∈ F, cov x y = true → cov y z = true → cov x z = true
  anti : ∀ x ∈ F, ∀ y ∈ F, cov x y = true → cov y x = true → x = y
  comp : ∀ x ∈ F, ∀ y ∈ F, ∀ z ∈ F, cov x z = true → cov y z = true → cov x y = true ∨ cov y x = true

def anyC (cov : α → α → Bool) (l : List α) (x : α) : Bool := l.any fun h => cov h x
def allC (cov : α → α → Bool) (have_ want : List α) : Bool := want.all fun x => anyC cov have_ x
/-- Those that no other one covers. -/
def leastL (cov : α → α → Bool) (r : List α) : List α := r.filter fun s => !(r.any fun h => decide (h ≠ s) && cov h s)
def meetL (cov : α → α → Bool) (a b : List α) : List α := a.flatMap fun x => b.flatMap fun y => if cov x y then [y] else if cov y x then [x] else []

variable {F : List α} {cov : α → α → Bool}

omit [DecidableEq α] in
theorem anyC_iff {l : List α} {x : α} : anyC cov l x = true ↔ ∃ h ∈ l, cov h x = true := by simp [anyC]
theorem mem_least {r : List α} {s : α} : s ∈ leastL cov r ↔ s ∈ r ∧ ∀ h ∈ r, h ≠ s → cov h s = false := by
  simp only [leastL, List.mem_filter, Bool.not_eq_true', List.any_eq_false]
  constructor
  · rintro ⟨h1, h2⟩
    refine ⟨h1, fun h hh hne => ?_⟩
    have := h2 h hh
    simp [hne] at this
    exact this
  · rintro ⟨h1, h2⟩
    refine ⟨h1, fun h hh => ?_⟩
    by_cases hne : h = s
    · simp [hne]
    · simp [hne, h2 h hh hne]

/-- Over each there is one that no other covers. -/
theorem top_of (hF : Cov F cov) {r : List α} (hr : ∀ s ∈ r, s ∈ F) : ∀ (n : Nat) (s : α), s ∈ r → (r.filter fun h => decide (h ≠ s) && cov h s).length ≤ n → ∃ t ∈ leastL cov r, cov t s = true := by
  intro n
  induction n with
  | zero =>
    intro s hs hn
    refine ⟨s, mem_least.2 ⟨hs, fun h hh hne => ?_⟩, hF.refl s (hr s hs)⟩
    cases hc : cov h s with
    | false => rfl
    | true =>
      have : h ∈ r.filter fun h => decide (h ≠ s) && cov h s := by simp [hh, hne, hc]
      rw [List.length_eq_zero_iff.1 (Nat.le_zero.1 hn)] at this
      cases this
  | succ n ih =>
    intro s hs hn
    by_cases hex : ∃ h ∈ r, h ≠ s ∧ cov h s = true
    · obtain ⟨h, hh, hne, hc⟩ := hex
      have hlt : (r.filter fun g => decide (g ≠ h) && cov g h).length < (r.filter fun g => decide (g ≠ s) && cov g s).length := by
        have sub : ∀ l : List α, (∀ g ∈ l, g ∈ r) → (l.filter fun g => decide (g ≠ h) && cov g h).length ≤ (l.filter fun g => decide (g ≠ s) && cov g s).length ∧
            (h ∈ l → (l.filter fun g => decide (g ≠ h) && cov g h).length < (l.filter fun g => decide (g ≠ s) && cov g s).length) := by
          intro l
          induction l with
          | nil => intro _; exact ⟨Nat.le_refl _, fun q => by cases q⟩
          | cons g l il =>
            intro hl
            obtain ⟨i1, i2⟩ := il fun x hx => hl x (by simp [hx])
            have hg := hl g (by simp)
            have up : (decide (g ≠ h) && cov g h) = true → (decide (g ≠ s) && cov g s) = true := by
              intro q
              simp only [Bool.and_eq_true, decide_eq_true_eq] at q ⊢
              refine ⟨fun e => ?_, hF.trans g (hr g hg) h (hr h hh) s (hr s hs) q.2 hc⟩
              subst e
              exact hne (hF.anti h (hr h hh) g (hr g hg) hc q.2)
            constructor
            · by_cases q1 : (decide (g ≠ h) && cov g h) = true
              · rw [List.filter_cons, List.filter_cons, if_pos q1, if_pos (up q1), List.length_cons, List.length_cons]; omega
              · rw [List.filter_cons, List.filter_cons, if_neg q1]
                by_cases q2 : (decide (g ≠ s) && cov g s) = true
                · rw [if_pos q2, List.length_cons]; omega
                · rw [if_neg q2]; exact i1
            · intro hin
              by_cases hgh : g = h
              · subst hgh
                have q1 : ¬ ((decide (g ≠ g) && cov g g) = true) := by simp
                have q2 : (decide (g ≠ s) && cov g s) = true := by simp [hne, hc]
                rw [List.filter_cons, List.filter_cons, if_neg q1, if_pos q2, List.length_cons]
                omega
              · have hin2 : h ∈ l := by
                  rcases List.mem_cons.1 hin with q | q
                  · exact (hgh q.symm).elim
                  · exact q
                have i3 := i2 hin2
                by_cases q1 : (decide (g ≠ h) && cov g h) = true
                · rw [List.filter_cons, List.filter_cons, if_pos q1, if_pos (up q1), List.length_cons, List.length_cons]; omega
                · rw [List.filter_cons, List.filter_cons, if_neg q1]
                  by_cases q2 : (decide (g ≠ s) && cov g s) = true
                  · rw [if_pos q2, List.length_cons]; omega
                  · rw [if_neg q2]; exact i3
        exact (sub r fun _ h => h).2 hh
      obtain ⟨t, ht, htc⟩ := ih h hh (by omega)
      exact ⟨t, ht, hF.trans t (hr t (mem_least.1 ht).1) h (hr h hh) s (hr s hs) htc hc⟩
    · refine ⟨s, mem_least.2 ⟨hs, fun h hh hne => ?_⟩, hF.refl s (hr s hs)⟩
      cases hc : cov h s with
      | false => rfl
      | true => exact (hex ⟨h, hh, hne, hc⟩).elim

theorem least_any (hF : Cov F cov) {r l : List α} (hr : ∀ s, s ∈ r ↔ s ∈ l) (hl : ∀ s ∈ l, s ∈ F) {x : α} (hx : x ∈ F) : anyC cov (leastL cov r) x = anyC cov l x := by
  have hrF : ∀ s ∈ r, s ∈ F := fun s h => hl s ((hr s).1 h)
  rw [Bool.eq_iff_iff, anyC_iff, anyC_iff]
  constructor
  · rintro ⟨h, hh, hc⟩
    exact ⟨h, (hr h).1 (mem_least.1 hh).1, hc⟩
  · rintro ⟨h, hh, hc⟩
    have hh := (hr h).2 hh
    obtain ⟨t, ht, htc⟩ := top_of hF hrF _ h hh (Nat.le_refl _)
    exact ⟨t, ht, hF.trans t (hrF t (mem_least.1 ht).1) h (hrF h hh) x hx htc hc⟩
theorem least_forth (hF : Cov F cov) {r l : List α} (hr : ∀ s, s ∈ r ↔ s ∈ l) (hl : ∀ s ∈ l, s ∈ F) : allC cov (leastL cov r) l = true := by
  rw [allC, List.all_eq_true]
  intro x hx
  rw [least_any hF hr hl (hl x hx), anyC_iff]
  exact ⟨x, hx, hF.refl x (hl x hx)⟩
theorem least_back (hF : Cov F cov) {r l : List α} (hr : ∀ s, s ∈ r ↔ s ∈ l) (hl : ∀ s ∈ l, s ∈ F) : allC cov l (leastL cov r) = true := by
  rw [allC, List.all_eq_true]
  intro x hx
  have := (hr x).1 (mem_least.1 hx).1
  rw [anyC_iff]
  exact ⟨x, this, hF.refl x (hl x this)⟩
omit [DecidableEq α] in
theorem mem_meet {a b : List α} {s : α} : s ∈ meetL cov a b ↔ ∃ x ∈ a, ∃ y ∈ b, (cov x y = true ∧ s = y) ∨ (cov x y = false ∧ cov y x = true ∧ s = x) := by
  simp only [meetL, List.mem_flatMap]
  constructor
  · rintro ⟨x, hx, y, hy, h⟩
    refine ⟨x, hx, y, hy, ?_⟩
    split at h
    · rename_i hc; exact .inl ⟨hc, by simpa using h⟩
    · rename_i hc
      split at h
      · rename_i hd; exact .inr ⟨by simpa using hc, hd, by simpa using h⟩
      · cases h
  · rintro ⟨x, hx, y, hy, h⟩
    refine ⟨x, hx, y, hy, ?_⟩
    rcases h with ⟨h1, h2⟩ | ⟨h1, h2, h3⟩
    · rw [if_pos h1]; simp [h2]
    · rw [if_neg (by rw [h1]; exact Bool.false_ne_true), if_pos h2]; simp [h3]
omit [DecidableEq α] in
theorem meet_any (hF : Cov F cov) {a b : List α} (ha : ∀ s ∈ a, s ∈ F) (hb : ∀ s ∈ b, s ∈ F) {x : α} (hx : x ∈ F) : anyC cov (meetL cov a b) x = (anyC cov a x && anyC cov b x) := by
  rw [Bool.eq_iff_iff, Bool.and_eq_true, anyC_iff, anyC_iff, anyC_iff]
  constructor
  · rintro ⟨h, hh, hc⟩
    obtain ⟨p, hp, q, hq, hk⟩ := mem_meet.1 hh
    rcases hk with ⟨h1, rfl⟩ | ⟨_, h2, rfl⟩
    · exact ⟨⟨p, hp, hF.trans p (ha p hp) h (hb h hq) x hx h1 hc⟩, h, hq, hc⟩
    · exact ⟨⟨h, hp, hc⟩, q, hq, hF.trans q (hb q hq) h (ha h hp) x hx h2 hc⟩
  · rintro ⟨⟨p, hp, h1⟩, q, hq, h2⟩
    cases hc : cov p q with
    | true => exact ⟨q, mem_meet.2 ⟨p, hp, q, hq, .inl ⟨hc, rfl⟩⟩, h2⟩
    | false =>
      rcases hF.comp p (ha p hp) q (hb q hq) x hx h1 h2 with h3 | h3
      · rw [hc] at h3; cases h3
      · exact ⟨p, mem_meet.2 ⟨p, hp, q, hq, .inr ⟨hc, h3, rfl⟩⟩, h1⟩
omit [DecidableEq α] in
theorem meet_in {a b : List α} (ha : ∀ s ∈ a, s ∈ F) (hb : ∀ s ∈ b, s ∈ F) : ∀ s ∈ meetL cov a b, s ∈ F := by
  intro s hs
  obtain ⟨x, hx, y, hy, h⟩ := mem_meet.1 hs
  rcases h with ⟨_, rfl⟩ | ⟨_, _, rfl⟩
  · exact hb _ hy
  · exact ha _ hx
end ScopeLaw
namespace ScopeLaw
open Go.Lib
variable {α : Type} [Inhabited α] [DecidableEq α]

/-- What is asked of an order. -/
structure Ord (le : α → α → Prop) : Prop where
  trans : ∀ x y z, le x y → le y z → le x z
  anti : ∀ x y, le x y → le y x → x = y

def below (le : α → α → Prop) (x y : α) : Prop := le x y ∧ x ≠ y

theorem cut_upto {le : α → α → Prop} (hO : Ord le) {d : Array α} (hd : ∀ i j, i < j → j < d.size → le d[i]! d[j]!) :
    ∀ m, m ≤ d.size → (∀ x, x ∈ compactUpTo d m ↔ ∃ j, j < m ∧ d[j]! = x) ∧ (compactUpTo d m).Pairwise (below le) := by
  intro m
  induction m with
  | zero =>
    intro _
    refine ⟨fun x => ⟨fun h => ?_, fun ⟨j, h, _⟩ => absurd h (Nat.not_lt_zero _)⟩, ?_⟩
    · simp [compactUpTo] at h
    · simp [compactUpTo]
  | succ m ih =>
    intro hm
    obtain ⟨i1, i2⟩ := ih (by omega)
    rw [compactUpTo_succ]
    by_cases hk : keeps d m = true
    · rw [if_pos hk]
      refine ⟨fun x => ?_, ?_⟩
      · rw [List.mem_append, i1, List.mem_singleton]
        constructor
        · rintro (⟨j, h1, h2⟩ | h)
          · exact ⟨j, by omega, h2⟩
          · exact ⟨m, by omega, h.symm⟩
        · rintro ⟨j, h1, h2⟩
          by_cases e : j = m
          · subst e; exact .inr h2.symm
          · exact .inl ⟨j, by omega, h2⟩
      · refine List.pairwise_append.2 ⟨i2, by simp, fun x hx y hy => ?_⟩
        rw [List.mem_singleton] at hy
        subst hy
        obtain ⟨j, h1, rfl⟩ := (i1 x).1 hx
        have hne : d[m]! ≠ d[m - 1]! := by
          unfold keeps at hk
          rcases of_decide_eq_true hk with q | q
          · omega
          · exact q
        have h2 : le d[m - 1]! d[m]! := hd _ _ (by omega) (by omega)
        refine ⟨hd _ _ h1 (by omega), fun e => ?_⟩
        by_cases hj : j = m - 1
        · subst hj; exact hne e.symm
        · have h3 : le d[j]! d[m - 1]! := hd _ _ (by omega) (by omega)
          rw [e] at h3
          exact hne (hO.anti _ _ h3 h2)
    · rw [if_neg hk, List.append_nil]
      refine ⟨fun x => ?_, i2⟩
      rw [i1]
      have hk2 : ¬ (m = 0 ∨ d[m]! ≠ d[m - 1]!) := fun q => hk (decide_eq_true q)
      have hm0 : m ≠ 0 := fun q => hk2 (.inl q)
      have he : d[m]! = d[m - 1]! := Classical.not_not.1 fun q => hk2 (.inr q)
      constructor
      · rintro ⟨j, h1, h2⟩; exact ⟨j, by omega, h2⟩
      · rintro ⟨j, h1, h2⟩
        by_cases e : j = m
        · subst e; exact ⟨j - 1, by omega, by rw [← he]; exact h2⟩
        · exact ⟨j, by omega, h2⟩

theorem cut_mem {le : α → α → Prop} (hO : Ord le) {l : List α} (hl : l.Pairwise le) (x : α) : x ∈ compact l ↔ x ∈ l := by
  have hd : ∀ i j, i < j → j < l.toArray.size → le l.toArray[i]! l.toArray[j]! := by
    intro i j hij hj
    have hj : j < l.length := by simpa using hj
    have := List.pairwise_iff_getElem.1 hl i j (by omega) hj hij
    simpa [show i < l.length by omega, hj] using this
  unfold compact
  rw [(cut_upto hO hd l.length (by simp)).1 x, List.mem_iff_getElem]
  constructor
  · rintro ⟨j, h1, h2⟩; exact ⟨j, h1, by simpa [h1] using h2⟩
  · rintro ⟨j, h1, h2⟩; exact ⟨j, h1, by simpa [h1] using h2⟩
theorem cut_rise {le : α → α → Prop} (hO : Ord le) {l : List α} (hl : l.Pairwise le) : (compact l).Pairwise (below le) := by
  have hd : ∀ i j, i < j → j < l.toArray.size → le l.toArray[i]! l.toArray[j]! := by
    intro i j hij hj
    have hj : j < l.length := by simpa using hj
    have := List.pairwise_iff_getElem.1 hl i j (by omega) hj hij
    simpa [show i < l.length by omega, hj] using this
  exact (cut_upto hO hd l.length (by simp)).2

/-- All sub-lists. -/
def subs {β : Type} : List β → List (List β)
  | [] => [[]]
  | x :: l => subs l ++ (subs l).map (x :: ·)
theorem nil_subs {β : Type} : ∀ l : List β, [] ∈ subs l
  | [] => by simp [subs]
  | x :: l => by simp only [subs, List.mem_append]; exact .inl (nil_subs l)
omit [Inhabited α] [DecidableEq α] in
/-- What rises within a rising list is one of its sub-lists. -/
theorem mem_subs {le : α → α → Prop} (hO : Ord le) : ∀ (F l : List α), F.Pairwise (below le) → l.Pairwise (below le) → (∀ x ∈ l, x ∈ F) → l ∈ subs F
  | [], l, _, _, hs => by
    cases l with
    | nil => simp [subs]
    | cons x l => exact absurd (hs x (by simp)) (by simp)
  | f :: F, [], _, _, _ => nil_subs _
  | f :: F, x :: l, hF, hl, hs => by
    obtain ⟨f1, f2⟩ := List.pairwise_cons.1 hF
    obtain ⟨l1, l2⟩ := List.pairwise_cons.1 hl
    rw [subs, List.mem_append]
    by_cases hx : x = f
    · subst hx
      refine .inr (List.mem_map.2 ⟨l, mem_subs hO F l f2 l2 fun y hy => ?_, rfl⟩)
      rcases List.mem_cons.1 (hs y (List.mem_cons_of_mem _ hy)) with q | q
      · subst q; exact absurd rfl (l1 y hy).2
      · exact q
    · have hxF : x ∈ F := by
        rcases List.mem_cons.1 (hs x (by simp)) with q | q
        · exact absurd q hx
        · exact q
      refine .inl (mem_subs hO F (x :: l) f2 hl fun y hy => ?_)
      rcases List.mem_cons.1 hy with q | q
      · subst q; exact hxF
      · rcases List.mem_cons.1 (hs y hy) with e | e
        · subst e
          have h1 := (l1 y q).1
          have h2 := (f1 x hxF).1
          exact absurd (hO.anti _ _ h1 h2) hx
        · exact e
end ScopeLaw
namespace ScopeLaw
open Go.Lib

/-- In their order. -/
def ten : List (List UInt8) := [[42], [97], [97, 58, 42], [97, 58, 98], [97, 58, 98, 58, 42], [97, 58, 98, 58, 99], [97, 58, 99], [98], [98, 58, 42], [98, 58, 99]]
/-- What lies ahead of a star at the end. -/
def ahead : List UInt8 → Option (List UInt8)
  | [] => none
  | [x] => if x = 42 then some [] else none
  | x :: y :: l => (ahead (y :: l)).map (x :: ·)
def covB (a b : List UInt8) : Bool := a == b || (match ahead a with | some p => p.isPrefixOf b | none => false)

theorem all3 {p : List UInt8 → List UInt8 → List UInt8 → Bool} (h : (ten.all fun x => ten.all fun y => ten.all fun z => p x y z) = true) : ∀ x ∈ ten, ∀ y ∈ ten, ∀ z ∈ ten, p x y z = true := by
  intro x hx y hy z hz
  exact List.all_eq_true.1 (List.all_eq_true.1 (List.all_eq_true.1 h x hx) y hy) z hz
theorem cov_trans : (ten.all fun x => ten.all fun y => ten.all fun z => !(covB x y && covB y z) || covB x z) = true := by decide +kernel
theorem cov_comp : (ten.all fun x => ten.all fun y => ten.all fun z => !(covB x z && covB y z) || (covB x y || covB y x)) = true := by decide +kernel
theorem cov_anti : (ten.all fun x => ten.all fun y => ten.all fun _ => !(covB x y && covB y x) || x == y) = true := by decide +kernel
theorem cov_ten : Cov ten covB where
  refl x _ := by simp [covB]
  trans x hx y hy z hz h1 h2 := by
    have := all3 cov_trans x hx y hy z hz
    simpa [h1, h2] using this
  anti x hx y hy h1 h2 := by
    have := all3 cov_anti x hx y hy x hx
    simpa [h1, h2] using this
  comp x hx y hy z hz h1 h2 := by
    have := all3 cov_comp x hx y hy z hz
    simpa [h1, h2] using this

theorem ord_le : Ord (fun x y : List UInt8 => x ≤ y) where
  trans _ _ _ h1 h2 := List.le_trans h1 h2
  anti _ _ h1 h2 := List.le_antisymm h1 h2

/-- In order, each once. -/
def rising (l : List (List UInt8)) : List (List UInt8) := compact (l.mergeSort fun x y => decide (x ≤ y))
theorem sorted (l : List (List UInt8)) : (l.mergeSort fun x y => decide (x ≤ y)).Pairwise (fun x y => x ≤ y) := by
  have := List.pairwise_mergeSort (le := fun x y : List UInt8 => decide (x ≤ y)) (fun a b c h1 h2 => by simpa using List.le_trans (by simpa using h1) (by simpa using h2)) (fun a b => by simpa using List.le_total a b) l
  simpa using this
theorem rising_mem (l : List (List UInt8)) (x : List UInt8) : x ∈ rising l ↔ x ∈ l := by
  rw [rising, cut_mem ord_le (sorted l)]
  exact (List.mergeSort_perm l _).mem_iff
theorem ten_rise : ten.Pairwise (below fun x y => x ≤ y) := by
  unfold below
  decide +kernel
theorem rising_subs {l : List (List UInt8)} (hl : ∀ x ∈ l, x ∈ ten) : rising l ∈ subs ten :=
  mem_subs ord_le ten _ ten_rise (cut_rise ord_le (sorted l)) fun x hx => hl x ((rising_mem l x).1 hx)

def leastR (l : List (List UInt8)) : List (List UInt8) := leastL covB (rising l)
def meetR (a b : List (List UInt8)) : List (List UInt8) := leastR (meetL covB a b)
theorem leastR_in {l : List (List UInt8)} (hl : ∀ x ∈ l, x ∈ ten) : ∀ x ∈ leastR l, x ∈ ten := fun x hx => hl x ((rising_mem l x).1 (mem_least.1 hx).1)
theorem leastR_any {l : List (List UInt8)} (hl : ∀ x ∈ l, x ∈ ten) {x : List UInt8} (hx : x ∈ ten) : anyC covB (leastR l) x = anyC covB l x := least_any cov_ten (rising_mem l) hl hx
theorem leastR_forth {l : List (List UInt8)} (hl : ∀ x ∈ l, x ∈ ten) : allC covB (leastR l) l = true := least_forth cov_ten (rising_mem l) hl
theorem leastR_back {l : List (List UInt8)} (hl : ∀ x ∈ l, x ∈ ten) : allC covB l (leastR l) = true := least_back cov_ten (rising_mem l) hl
theorem meetR_in {a b : List (List UInt8)} (ha : ∀ x ∈ a, x ∈ ten) (hb : ∀ x ∈ b, x ∈ ten) : ∀ x ∈ meetR a b, x ∈ ten := leastR_in (meet_in ha hb)
theorem meetR_any {a b : List (List UInt8)} (ha : ∀ x ∈ a, x ∈ ten) (hb : ∀ x ∈ b, x ∈ ten) {x : List UInt8} (hx : x ∈ ten) : anyC covB (meetR a b) x = (anyC covB a x && anyC covB b x) := by
  rw [meetR, leastR_any (meet_in ha hb) hx, meet_any cov_ten ha hb hx]
end ScopeLaw
namespace Go.Proofs.YtklednomnpghcaaGreatDoor
open Go.Ev Go.RowKit ScopeLaw

/-- A closed run. -/
def arun (P : Program) (C : Cfg) (n : Nat) (fn : Func) (args : List Value) (h : AH) : Option (Value × AH) :=
  match acode P C n (codeOf fn) (frame fn args) h with
  | some (.exit _, _, _) => none
  | some (_, τ', h') => match aresultV P τ' h' fn.results.toList with
    | some v => some (v, h')
    | none => none
  | none => none
theorem arun_ok {p : Nat} {P : Program} {C : Cfg} (hC : C.OK P) (hm : P.follows .mixedOrders = true) {n : Nat} {f : FuncId} {fn : Func} {args : List Value} {h h' : AH} {v : Value} (hfn : P.funcs[f]? = some fn) (hc : fn.body.isSome = true)
    (hr : arun P C n fn args h = some (v, h')) : FnOK p P f ⟨args⟩ h (fun u g => u = v ∧ g = h') := by
  unfold arun at hr
  split at hr
  · cases hr
  · rename_i e τ' h1 hne ha
    split at hr
    · rename_i u hu
      cases hr
      refine FnOK.tri hfn hc (Tri.acode hC hm ha ?_)
      cases e with
      | exit i => exact (hne i rfl).elim
      | normal => simp [ends, hu, lift]
      | ret => simp [ends, hu, lift]
    · cases hr
  · cases hr
def isB (b : Bool) (x : Option (Value × AH)) : Bool :=
  match x with
  | some (.bool c, _) => c == b
  | _ => false
theorem isB_eq {b : Bool} {x : Option (Value × AH)} (h : isB b x = true) : ∃ h', x = some (.bool b, h') := by
  unfold isB at h
  split at h
  · rename_i c h'
    have := eq_of_beq h
    subst this
    exact ⟨h', rfl⟩
  · cases h
/-- A scope as the program has it. -/
def scp (s : List UInt8) : Value := .string ⟨s.toArray⟩
theorem someIs : Tryz.f68.body.isSome = true := by kernel_rfl
theorem someCv : Tryz.f35.body.isSome = true := by kernel_rfl
theorem fnIs : Tryz.prog.funcs[68]? = some Tryz.f68 := by kernel_rfl
theorem fnCv : Tryz.prog.funcs[35]? = some Tryz.f35 := by kernel_rfl
theorem isScope_runs : (ten.all fun s => isB true (arun Tryz.prog SI.cfg 1000 Tryz.f68 [scp s] h0)) = true := by kernel_rfl
theorem covers_runs : (ten.all fun a => ten.all fun b => isB (covB a b) (arun Tryz.prog SI.cfg 1000 Tryz.f35 [scp a, scp b] h0)) = true := by kernel_rfl
theorem isScope_fn {s : List UInt8} (hs : s ∈ ten) : FnOK 0 Tryz.prog 68 ⟨[scp s]⟩ h0 (fun u _ => u = .bool true) := by
  obtain ⟨h', hr⟩ := isB_eq (List.all_eq_true.1 isScope_runs s hs)
  exact (arun_ok SI_ok mixed fnIs someIs hr).mono fun _ _ q => q.1
theorem covers_fn {a b : List UInt8} (ha : a ∈ ten) (hb : b ∈ ten) : FnOK 0 Tryz.prog 35 ⟨[scp a, scp b]⟩ h0 (fun u _ => u = .bool (covB a b)) := by
  obtain ⟨h', hr⟩ := isB_eq (List.all_eq_true.1 (List.all_eq_true.1 covers_runs a ha) b hb)
  exact (arun_ok SI_ok mixed fnCv someCv hr).mono fun _ _ q => q.1
theorem isScope_call {s : List UInt8} (hs : s ∈ ten) (h : AH) : CallOK Tryz.prog 68 ⟨[scp s]⟩ h (.bool true) h := FnOK.pure (isScope_fn hs) rfl rfl h
theorem covers_call {a b : List UInt8} (ha : a ∈ ten) (hb : b ∈ ten) (h : AH) : CallOK Tryz.prog 35 ⟨[scp a, scp b]⟩ h (.bool (covB a b)) h := FnOK.pure (covers_fn ha hb) rfl rfl h
end Go.Proofs.YtklednomnpghcaaGreatDoor
