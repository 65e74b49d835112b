/-
  Values as the program holds them; how many the code counts.
-/
import Derived.Test.YtmclppkligkooaaGreatDoorVaB
import Derived.Lib.ItoaNum
/-
  Values: plain laws: an order by parts; texts that differ where values do.
-/
namespace ValLaw

structure Ord {α : Type} (C : α → α → Int) : Prop where
  anti : ∀ x y, C y x = - C x y
  trans : ∀ x y z, C x y ≤ 0 → C y z ≤ 0 → C x z ≤ 0
  eq : ∀ x y, C x y = 0 → x = y
theorem Ord.self {α : Type} {C : α → α → Int} (h : Ord C) (x : α) : C x x = 0 := by have := h.anti x x; omega
theorem Ord.lt {α : Type} {C : α → α → Int} (h : Ord C) {x y z : α} (h1 : C x y < 0) (h2 : C y z ≤ 0) : C x z < 0 := by
  have h3 := h.trans x y z (by omega) h2
  by_cases q : C x z = 0
  · have := h.eq x z q
    subst this
    have := h.anti x y
    omega
  · omega
def orE (a b : Int) : Int := if a = 0 then b else a
theorem orE_le {a b : Int} : orE a b ≤ 0 ↔ a < 0 ∨ (a = 0 ∧ b ≤ 0) := by unfold orE; split <;> omega
theorem orE_zero {a b : Int} : orE a b = 0 ↔ a = 0 ∧ b = 0 := by unfold orE; split <;> omega
/-- By one part, and where these are the same by another. -/
theorem Ord.lex {α β γ : Type} {C : α → α → Int} {D : β → β → Int} (hC : Ord C) (hD : Ord D) (f : γ → α) (g : γ → β) (hfg : ∀ x y, f x = f y → g x = g y → x = y) : Ord (fun x y : γ => orE (C (f x) (f y)) (D (g x) (g y))) := by
  refine ⟨fun x y => ?_, fun x y z h1 h2 => ?_, fun x y h => ?_⟩
  · have a1 := hC.anti (f x) (f y)
    have a2 := hD.anti (g x) (g y)
    show orE _ _ = - orE _ _
    unfold orE
    split <;> split <;> omega
  · have h1 := orE_le.1 h1
    have h2 := orE_le.1 h2
    refine orE_le.2 ?_
    rcases h1 with h1 | ⟨e1, h1⟩
    · rcases h2 with h2 | ⟨e2, h2⟩
      · exact .inl (hC.lt h1 (by omega))
      · exact .inl (hC.lt h1 (by omega))
    · have e := hC.eq _ _ e1
      rcases h2 with h2 | ⟨e2, h2⟩
      · exact .inl (by rw [e]; exact h2)
      · exact .inr ⟨by rw [e]; exact e2, hD.trans _ _ _ h1 h2⟩
  · obtain ⟨h1, h2⟩ := orE_zero.1 h
    exact hfg x y (hC.eq _ _ h1) (hD.eq _ _ h2)
def cmpI (a b : Int) : Int := if a < b then -1 else if b < a then 1 else 0
theorem cmpI_ord : Ord cmpI := by
  refine ⟨fun x y => ?_, fun x y z => ?_, fun x y => ?_⟩ <;> unfold cmpI
  · split <;> split <;> (try split) <;> omega
  · split <;> split <;> (try split) <;> (try split) <;> omega
  · split <;> (try split) <;> omega
def flagN (b : Bool) : Int := if b then 1 else 0
def cmpF (a b : Bool) : Int := flagN a - flagN b
theorem cmpF_ord : Ord cmpF := by
  refine ⟨fun x y => ?_, fun x y z => ?_, fun x y => ?_⟩ <;> cases x <;> cases y <;> (try cases z) <;> simp [cmpF, flagN]
/-- Lists, part by part. -/
def cmpL {α : Type} (C : α → α → Int) : List α → List α → Int
  | [], [] => 0
  | [], _ :: _ => -1
  | _ :: _, [] => 1
  | x :: xs, y :: ys => orE (C x y) (cmpL C xs ys)
theorem cmpL_ord {α : Type} {C : α → α → Int} (h : Ord C) : Ord (cmpL C) := by
  refine ⟨?_, ?_, ?_⟩
  · intro x
    induction x with
    | nil => intro y; cases y <;> rfl
    | cons a x ih =>
      intro y
      cases y with
      | nil => rfl
      | cons b y =>
        have a1 := h.anti a b
        have a2 := ih y
        show orE _ _ = - orE _ _
        unfold orE
        split <;> split <;> omega
  · intro x
    induction x with
    | nil => intro y z _ _; cases z <;> (show _ ≤ (0 : Int)) <;> simp [cmpL]
    | cons a x ih =>
      intro y z h1 h2
      cases y with
      | nil => simp [cmpL] at h1
      | cons b y =>
        cases z with
        | nil => simp [cmpL] at h2
        | cons c z =>
          refine orE_le.2 ?_
          rcases orE_le.1 h1 with k1 | ⟨e1, k1⟩
          · rcases orE_le.1 h2 with k2 | ⟨e2, k2⟩
            · exact .inl (h.lt k1 (by omega))
            · exact .inl (h.lt k1 (by omega))
          · have e := h.eq _ _ e1
            rcases orE_le.1 h2 with k2 | ⟨e2, k2⟩
            · exact .inl (by rw [e]; exact k2)
            · exact .inr ⟨by rw [e]; exact e2, ih y z k1 k2⟩
  · intro x
    induction x with
    | nil => intro y h; cases y with | nil => rfl | cons => simp [cmpL] at h
    | cons a x ih =>
      intro y hy
      cases y with
      | nil => simp [cmpL] at hy
      | cons b y =>
        obtain ⟨h1, h2⟩ := orE_zero.1 hy
        rw [h.eq _ _ h1, ih y h2]
abbrev W := List UInt8
def cmpW (a b : W) : Int := cmpL (fun x y : UInt8 => cmpI (x.toNat : Int) (y.toNat : Int)) a b
theorem cmpW_ord : Ord cmpW := by
  refine cmpL_ord ⟨fun x y => cmpI_ord.anti _ _, fun x y z => cmpI_ord.trans _ _ _, fun x y h => ?_⟩
  have := cmpI_ord.eq _ _ h
  exact UInt8.toNat_inj.1 (by omega)
/-- What a value is but for its parts: kind, flag, number, words. -/
abbrev Base := Int × Bool × Int × W
def cmp3 (a b : Int × W) : Int := orE (cmpI a.1 b.1) (cmpW a.2 b.2)
def cmp2 (a b : Bool × Int × W) : Int := orE (cmpF a.1 b.1) (cmp3 a.2 b.2)
def cmpB (a b : Base) : Int := orE (cmpI a.1 b.1) (cmp2 a.2 b.2)
theorem cmp3_ord : Ord cmp3 := Ord.lex (γ := Int × W) cmpI_ord cmpW_ord (·.1) (·.2) fun _ _ => Prod.ext
theorem cmp2_ord : Ord cmp2 := Ord.lex (γ := Bool × Int × W) cmpF_ord cmp3_ord (·.1) (·.2) fun _ _ => Prod.ext
theorem cmpB_ord : Ord cmpB := Ord.lex (γ := Base) cmpI_ord cmp2_ord (·.1) (·.2) fun _ _ => Prod.ext
/-- Values of at most so many levels below the first. -/
def T : Nat → Type
  | 0 => Base
  | n + 1 => Base × List (T n) × List (W × T n)
def cmp : (n : Nat) → T n → T n → Int
  | 0 => cmpB
  | n + 1 => fun a b => orE (cmpB a.1 b.1) (orE (cmpL (cmp n) a.2.1 b.2.1) (cmpL (fun x y => orE (cmpW x.1 y.1) (cmp n x.2 y.2)) a.2.2 b.2.2))
theorem cmp_ord : ∀ n, Ord (cmp n)
  | 0 => cmpB_ord
  | n + 1 => by
    have ih := cmp_ord n
    have hm : Ord (fun x y : W × T n => orE (cmpW x.1 y.1) (cmp n x.2 y.2)) := Ord.lex (γ := W × T n) cmpW_ord ih (·.1) (·.2) fun _ _ => Prod.ext
    have hr : Ord (fun x y : List (T n) × List (W × T n) => orE (cmpL (cmp n) x.1 y.1) (cmpL (fun x y => orE (cmpW x.1 y.1) (cmp n x.2 y.2)) x.2 y.2)) := Ord.lex (γ := List (T n) × List (W × T n)) (cmpL_ord ih) (cmpL_ord hm) (·.1) (·.2) fun _ _ => Prod.ext
    exact Ord.lex (γ := Base × List (T n) × List (W × T n)) cmpB_ord hr (·.1) (·.2) fun _ _ => Prod.ext
/-- The law of the order. -/
theorem cmp_law (n : Nat) (a b c : T n) : cmp n b a = - cmp n a b ∧ (cmp n a b ≤ 0 → cmp n b c ≤ 0 → cmp n a c ≤ 0) ∧ (cmp n a b = 0 ↔ a = b) :=
  ⟨(cmp_ord n).anti a b, (cmp_ord n).trans a b c, (cmp_ord n).eq a b, fun h => h ▸ (cmp_ord n).self a⟩

/-! texts -/
/-- What may stand behind a value: nothing, a comma, or the end of a list. -/
def D : W → Prop
  | [] => True
  | c :: _ => c = 44 ∨ c = 93 ∨ c = 125
def noD (c : UInt8) : Prop := c ≠ 44 ∧ c ≠ 93 ∧ c ≠ 125
theorem split_D : ∀ {x y r s : W}, (∀ c ∈ x, noD c) → (∀ c ∈ y, noD c) → D r → D s → x ++ r = y ++ s → x = y ∧ r = s
  | [], [], r, s, _, _, _, _, h => ⟨rfl, h⟩
  | [], b :: y, r, s, _, hy, hr, _, h => by
    have hb := hy b (by simp)
    cases r with
    | nil => simp at h
    | cons c r =>
      simp only [List.nil_append, List.cons_append, List.cons.injEq] at h
      rw [h.1] at hr
      exact absurd hr (by unfold D; unfold noD at hb; simp [hb])
  | a :: x, [], r, s, hx, _, _, hs, h => by
    have ha := hx a (by simp)
    cases s with
    | nil => simp at h
    | cons c s =>
      simp only [List.nil_append, List.cons_append, List.cons.injEq] at h
      rw [← h.1] at hs
      exact absurd hs (by unfold D; unfold noD at ha; simp [ha])
  | a :: x, b :: y, r, s, hx, hy, hr, hs, h => by
    simp only [List.cons_append, List.cons.injEq] at h
    obtain ⟨h1, h2⟩ := split_D (fun c hc => hx c (by simp [hc])) (fun c hc => hy c (by simp [hc])) hr hs h.2
    exact ⟨by rw [h.1, h1], h2⟩
/-- How a byte is written in words. -/
def hexD (n : Nat) : UInt8 := UInt8.ofNat (if n < 10 then 48 + n else 87 + n)
def esc (c : UInt8) : W :=
  if c = 34 ∨ c = 92 then [92, c] else if c = 10 then [92, 110] else if c = 13 then [92, 114] else if c = 9 then [92, 116]
  else if c < 32 ∨ c = 127 then [92, 117, 48, 48, hexD (c.toNat / 16), hexD (c.toNat % 16)] else [c]
def escs (w : W) : W := w.flatMap esc
def qt (w : W) : W := 34 :: (escs w ++ [34])
def pre : W → W → Bool
  | [], _ => true
  | _ :: _, [] => false
  | a :: x, b :: y => a == b && pre x y
def bytes : List UInt8 := (List.range 256).map UInt8.ofNat
theorem mem_bytes (c : UInt8) : c ∈ bytes := by
  unfold bytes
  refine List.mem_map.2 ⟨c.toNat, List.mem_range.2 c.toNat_lt, ?_⟩
  simp
theorem esc_pre : (bytes.all fun c => bytes.all fun d => !(pre (esc c) (esc d)) || c == d) = true := by decide +kernel
theorem esc_head : (bytes.all fun c => match esc c with | [] => false | b :: _ => b != 34) = true := by decide +kernel
theorem pre_app : ∀ {x y r s : W}, x ++ r = y ++ s → pre x y = true ∨ pre y x = true
  | [], _, _, _, _ => .inl rfl
  | _ :: _, [], _, _, _ => .inr rfl
  | a :: x, b :: y, r, s, h => by
    simp only [List.cons_append, List.cons.injEq] at h
    rcases pre_app h.2 with q | q
    · exact .inl (by simp [pre, h.1, q])
    · exact .inr (by simp [pre, h.1, q])
theorem esc_inj {c d : UInt8} {r s : W} (h : esc c ++ r = esc d ++ s) : c = d ∧ r = s := by
  have key : ∀ c d, pre (esc c) (esc d) = true → c = d := fun c d q => by
    have := List.all_eq_true.1 (List.all_eq_true.1 esc_pre c (mem_bytes c)) d (mem_bytes d)
    rw [q] at this
    simpa using this
  have e : c = d := by
    rcases pre_app h with q | q
    · exact key c d q
    · exact (key d c q).symm
  subst e
  exact ⟨rfl, List.append_cancel_left h⟩
theorem escs_inj : ∀ {v w r s : W}, escs v ++ 34 :: r = escs w ++ 34 :: s → v = w ∧ r = s
  | [], [], r, s, h => by simpa [escs] using h
  | [], d :: w, r, s, h => by
    exfalso
    have hd := List.all_eq_true.1 esc_head d (mem_bytes d)
    simp only [escs, List.flatMap_nil, List.nil_append, List.flatMap_cons, List.append_assoc] at h
    cases he : esc d with
    | nil => rw [he] at hd; cases hd
    | cons b l =>
      rw [he] at hd h
      simp only [List.cons_append, List.cons.injEq] at h
      rw [← h.1] at hd
      cases hd
  | c :: v, [], r, s, h => by
    exfalso
    have hd := List.all_eq_true.1 esc_head c (mem_bytes c)
    simp only [escs, List.flatMap_nil, List.nil_append, List.flatMap_cons, List.append_assoc] at h
    cases he : esc c with
    | nil => rw [he] at hd; cases hd
    | cons b l =>
      rw [he] at hd h
      simp only [List.cons_append, List.cons.injEq] at h
      rw [h.1] at hd
      cases hd
  | c :: v, d :: w, r, s, h => by
    simp only [escs, List.flatMap_cons, List.append_assoc] at h
    obtain ⟨h1, h2⟩ := esc_inj h
    obtain ⟨h3, h4⟩ := escs_inj (v := v) (w := w) h2
    exact ⟨by rw [h1, h3], h4⟩
theorem qt_inj {v w r s : W} (h : qt v ++ r = qt w ++ s) : v = w ∧ r = s := by
  unfold qt at h
  simp only [List.cons_append, List.append_assoc, List.cons.injEq, true_and, List.nil_append] at h
  exact escs_inj h
/-- Parts with commas between. -/
def lst {α : Type} (f : α → W) : List α → W
  | [] => []
  | [x] => f x
  | x :: y :: l => f x ++ 44 :: lst f (y :: l)
/-- A text that can be read: what it is, and how it begins. -/
def Good {α : Type} (f : α → W) (P : α → Prop) : Prop :=
  (∀ x, P x → ∃ c l, f x = c :: l ∧ noD c) ∧ ∀ x y, P x → P y → ∀ r s, D r → D s → f x ++ r = f y ++ s → x = y ∧ r = s
theorem lst_inj {α : Type} {f : α → W} {P : α → Prop} (h : Good f P) {e : UInt8} (he : e = 93 ∨ e = 125) : ∀ (xs ys : List α), (∀ x ∈ xs, P x) → (∀ y ∈ ys, P y) → ∀ r s, lst f xs ++ e :: r = lst f ys ++ e :: s → xs = ys ∧ r = s := by
  have hDe : ∀ r : W, D (e :: r) := fun r => .inr he
  have hDc : ∀ r : W, D (44 :: r) := fun r => .inl rfl
  have h44 : (44 : UInt8) ≠ e := by rcases he with rfl | rfl <;> decide
  have first : ∀ x, P x → ∀ r s, f x ++ r ≠ e :: s := by
    intro x hx r s q
    obtain ⟨c, l, e1, e2⟩ := h.1 x hx
    rw [e1] at q
    simp only [List.cons_append, List.cons.injEq] at q
    unfold noD at e2
    rcases he with rfl | rfl
    · exact e2.2.1 q.1
    · exact e2.2.2 q.1
  intro xs
  induction xs with
  | nil =>
    intro ys _ hy r s q
    match ys, hy, q with
    | [], _, q => exact ⟨rfl, by simpa [lst] using q⟩
    | [y], hy, q => exact absurd q.symm (first y (hy y (by simp)) _ _)
    | y :: z :: l, hy, q =>
      simp only [lst, List.append_assoc] at q
      exact absurd q.symm (first y (hy y (by simp)) _ _)
  | cons x xs ih =>
    intro ys hx hy r s q
    match xs, ys, ih, hx, hy, q with
    | [], [], _, hx, _, q => exact absurd q (first x (hx x (by simp)) _ _)
    | x2 :: xs, [], _, hx, _, q =>
      simp only [lst, List.append_assoc] at q
      exact absurd q (first x (hx x (by simp)) _ _)
    | [], [y], _, hx, hy, q =>
      obtain ⟨h1, h2⟩ := h.2 x y (hx x (by simp)) (hy y (by simp)) _ _ (hDe r) (hDe s) q
      exact ⟨by rw [h1], by simpa using h2⟩
    | [], y :: z :: l, _, hx, hy, q =>
      simp only [lst, List.append_assoc, List.cons_append] at q
      obtain ⟨_, h2⟩ := h.2 x y (hx x (by simp)) (hy y (by simp)) _ _ (hDe r) (hDc _) q
      simp only [List.cons.injEq] at h2
      exact absurd h2.1.symm h44
    | x2 :: xs, [y], _, hx, hy, q =>
      simp only [lst, List.append_assoc, List.cons_append] at q
      obtain ⟨_, h2⟩ := h.2 x y (hx x (by simp)) (hy y (by simp)) _ _ (hDc _) (hDe s) q
      simp only [List.cons.injEq] at h2
      exact absurd h2.1 h44
    | x2 :: xs, y :: z :: l, ih, hx, hy, q =>
      simp only [lst, List.append_assoc, List.cons_append] at q
      obtain ⟨h1, h2⟩ := h.2 x y (hx x (by simp)) (hy y (by simp)) _ _ (hDc _) (hDc _) q
      simp only [List.cons.injEq, true_and] at h2
      obtain ⟨h3, h4⟩ := ih (z :: l) (fun u hu => hx u (by simp [hu])) (fun u hu => hy u (by simp [hu])) r s h2
      exact ⟨by rw [h1, h3], h4⟩
/-- What a way to write numbers owes. -/
structure Num (num : Int → W) : Prop where
  inj : ∀ a b, num a = num b → a = b
  chars : ∀ a, ∀ c ∈ num a, c = 45 ∨ (48 ≤ c ∧ c ≤ 57)
  some : ∀ a, num a ≠ []
def nullB : W := [110, 117, 108, 108]
def trueB : W := [116, 114, 117, 101]
def falseB : W := [102, 97, 108, 115, 101]
def txtB (num : Int → W) (b : Base) : W :=
  if b.1 = 0 then nullB else if b.1 = 1 then (if b.2.1 then trueB else falseB) else if b.1 = 2 then num b.2.2.1 else qt b.2.2.2
def txt (num : Int → W) : (n : Nat) → T n → W
  | 0, b => if b.1 = 4 then [91, 93] else if b.1 = 5 then [123, 125] else txtB num b
  | n + 1, v => if v.1.1 = 4 then 91 :: (lst (txt num n) v.2.1 ++ [93]) else if v.1.1 = 5 then 123 :: (lst (fun p : W × T n => qt p.1 ++ 58 :: txt num n p.2) v.2.2 ++ [125]) else txtB num v.1
def okB (b : Base) : Prop := 0 ≤ b.1 ∧ b.1 ≤ 5 ∧ (b.1 = 1 ∨ b.2.1 = false) ∧ (b.1 = 2 ∨ b.2.2.1 = 0) ∧ (b.1 = 3 ∨ b.2.2.2 = [])
def WF : (n : Nat) → T n → Prop
  | 0, b => okB b
  | n + 1, v => okB v.1 ∧ (v.1.1 = 4 ∨ v.2.1 = []) ∧ (v.1.1 = 5 ∨ v.2.2 = []) ∧ (∀ x ∈ v.2.1, WF n x) ∧ (∀ p ∈ v.2.2, WF n p.2)
/-- What a text begins with tells its kind. -/
def kindOf (c : UInt8) : Int := if c = 110 then 0 else if c = 116 ∨ c = 102 then 1 else if c = 34 then 3 else if c = 91 then 4 else if c = 123 then 5 else 2
theorem num_kind {c : UInt8} (h : c = 45 ∨ (48 ≤ c ∧ c ≤ 57)) : kindOf c = 2 ∧ noD c := by
  have : (bytes.all fun c => !(c == 45 || (decide (48 ≤ c) && decide (c ≤ 57))) || (kindOf c == 2 && (c != 44 && c != 93 && c != 125))) = true := by decide +kernel
  have := List.all_eq_true.1 this c (mem_bytes c)
  have hb : (c == 45 || (decide (48 ≤ c) && decide (c ≤ 57))) = true := by
    rcases h with rfl | ⟨h1, h2⟩
    · rfl
    · simp [h1, h2]
  rw [hb] at this
  simpa [noD, and_assoc] using this
theorem txtB_head {num : Int → W} (hn : Num num) {b : Base} (hb : okB b) (h4 : b.1 ≠ 4) (h5 : b.1 ≠ 5) : ∃ c l, txtB num b = c :: l ∧ noD c ∧ kindOf c = b.1 := by
  obtain ⟨h0, h1, _⟩ := hb
  unfold txtB
  by_cases q0 : b.1 = 0
  · rw [if_pos q0]; exact ⟨110, _, rfl, by unfold noD; decide, by rw [q0]; rfl⟩
  · rw [if_neg q0]
    by_cases q1 : b.1 = 1
    · rw [if_pos q1]
      cases b.2.1
      · exact ⟨102, _, rfl, by unfold noD; decide, by rw [q1]; rfl⟩
      · exact ⟨116, _, rfl, by unfold noD; decide, by rw [q1]; rfl⟩
    · rw [if_neg q1]
      by_cases q2 : b.1 = 2
      · rw [if_pos q2]
        cases he : num b.2.2.1 with
        | nil => exact absurd he (hn.some _)
        | cons c l =>
          have := num_kind (hn.chars b.2.2.1 c (by rw [he]; simp))
          exact ⟨c, l, rfl, this.2, by rw [this.1, q2]⟩
      · rw [if_neg q2]
        exact ⟨34, _, rfl, by unfold noD; decide, by show (3 : Int) = b.1; omega⟩
theorem txtB_inj {num : Int → W} (hn : Num num) {a b : Base} (ha : okB a) (hb : okB b) (a4 : a.1 ≠ 4) (a5 : a.1 ≠ 5) (hk : a.1 = b.1) {r s : W} (hr : D r) (hs : D s) (h : txtB num a ++ r = txtB num b ++ s) : a = b ∧ r = s := by
  obtain ⟨k, f, n, w⟩ := a
  obtain ⟨k2, f2, n2, w2⟩ := b
  obtain ⟨x0, x1, x2, x3, x4⟩ := ha
  obtain ⟨y0, y1, y2, y3, y4⟩ := hb
  simp only at *
  subst hk
  have hc : k = 0 ∨ k = 1 ∨ k = 2 ∨ k = 3 := by omega
  rcases hc with rfl | rfl | rfl | rfl
  · have h := List.append_cancel_left (show nullB ++ r = nullB ++ s from h)
    exact ⟨by simp_all, h⟩
  · have h : (if f then trueB else falseB) ++ r = (if f2 then trueB else falseB) ++ s := h
    cases f <;> cases f2
    · exact ⟨by simp_all, List.append_cancel_left h⟩
    · simp [trueB, falseB] at h
    · simp [trueB, falseB] at h
    · exact ⟨by simp_all, List.append_cancel_left h⟩
  · have h : num n ++ r = num n2 ++ s := h
    obtain ⟨h1, h2⟩ := split_D (fun c hc => (num_kind (hn.chars n c hc)).2) (fun c hc => (num_kind (hn.chars n2 c hc)).2) hr hs h
    exact ⟨by have := hn.inj _ _ h1; simp_all, h2⟩
  · have h : qt w ++ r = qt w2 ++ s := h
    obtain ⟨h1, h2⟩ := qt_inj h
    exact ⟨by simp_all, h2⟩
def kd : (n : Nat) → T n → Int
  | 0, b => b.1
  | _ + 1, v => v.1.1
theorem txt_head {num : Int → W} (hn : Num num) : ∀ (n : Nat) (v : T n), WF n v → ∃ c l, txt num n v = c :: l ∧ noD c ∧ kindOf c = kd n v
  | 0, b, h => by
    show ∃ c l, (if b.1 = 4 then [91, 93] else if b.1 = 5 then [123, 125] else txtB num b) = c :: l ∧ noD c ∧ kindOf c = b.1
    by_cases q4 : b.1 = 4
    · rw [if_pos q4]; exact ⟨91, _, rfl, by unfold noD; decide, by rw [q4]; rfl⟩
    · rw [if_neg q4]
      by_cases q5 : b.1 = 5
      · rw [if_pos q5]; exact ⟨123, _, rfl, by unfold noD; decide, by rw [q5]; rfl⟩
      · rw [if_neg q5]; exact txtB_head hn h q4 q5
  | n + 1, v, h => by
    show ∃ c l, (if v.1.1 = 4 then _ else if v.1.1 = 5 then _ else txtB num v.1) = c :: l ∧ noD c ∧ kindOf c = v.1.1
    by_cases q4 : v.1.1 = 4
    · rw [if_pos q4]; exact ⟨91, _, rfl, by unfold noD; decide, by rw [q4]; rfl⟩
    · rw [if_neg q4]
      by_cases q5 : v.1.1 = 5
      · rw [if_pos q5]; exact ⟨123, _, rfl, by unfold noD; decide, by rw [q5]; rfl⟩
      · rw [if_neg q5]; exact txtB_head hn h.1 q4 q5
theorem base_eq {a b : Base} (ha : okB a) (hb : okB b) (h : a.1 = b.1) (hk : a.1 = 4 ∨ a.1 = 5) : a = b := by
  obtain ⟨k, f, n, w⟩ := a
  obtain ⟨k2, f2, n2, w2⟩ := b
  obtain ⟨_, _, x2, x3, x4⟩ := ha
  obtain ⟨_, _, y2, y3, y4⟩ := hb
  simp only at *
  subst h
  have e1 : f = false := x2.resolve_left (by omega)
  have e2 : n = 0 := x3.resolve_left (by omega)
  have e3 : w = [] := x4.resolve_left (by omega)
  have e4 : f2 = false := y2.resolve_left (by omega)
  have e5 : n2 = 0 := y3.resolve_left (by omega)
  have e6 : w2 = [] := y4.resolve_left (by omega)
  rw [e1, e2, e3, e4, e5, e6]
theorem head_kd {num : Int → W} (hn : Num num) {n : Nat} {a b : T n} (ha : WF n a) (hb : WF n b) {r s : W} (h : txt num n a ++ r = txt num n b ++ s) : kd n a = kd n b := by
  obtain ⟨c, l, e1, _, e2⟩ := txt_head hn n a ha
  obtain ⟨d, m, f1, _, f2⟩ := txt_head hn n b hb
  rw [e1, f1] at h
  simp only [List.cons_append, List.cons.injEq] at h
  rw [← e2, ← f2, h.1]
theorem txt_good {num : Int → W} (hn : Num num) : ∀ n, Good (txt num n) (WF n)
  | 0 => by
    refine ⟨fun v h => (txt_head hn 0 v h).imp fun c ⟨l, e1, e2, _⟩ => ⟨l, e1, e2⟩, fun a b ha hb r s hr hs h => ?_⟩
    have hk : a.1 = b.1 := head_kd (n := 0) hn ha hb h
    have h : (if a.1 = 4 then [91, 93] else if a.1 = 5 then [123, 125] else txtB num a) ++ r = (if b.1 = 4 then [91, 93] else if b.1 = 5 then [123, 125] else txtB num b) ++ s := h
    by_cases q4 : a.1 = 4
    · have q4' : b.1 = 4 := hk ▸ q4
      rw [if_pos q4, if_pos q4'] at h
      exact ⟨base_eq ha hb hk (.inl q4), List.append_cancel_left h⟩
    · have q4' : ¬ b.1 = 4 := fun e => q4 (hk.trans e)
      rw [if_neg q4, if_neg q4'] at h
      by_cases q5 : a.1 = 5
      · have q5' : b.1 = 5 := hk ▸ q5
        rw [if_pos q5, if_pos q5'] at h
        exact ⟨base_eq ha hb hk (.inr q5), List.append_cancel_left h⟩
      · have q5' : ¬ b.1 = 5 := fun e => q5 (hk.trans e)
        rw [if_neg q5, if_neg q5'] at h
        exact txtB_inj hn ha hb q4 q5 hk hr hs h
  | n + 1 => by
    have ih := txt_good hn n
    have hp : Good (fun p : W × T n => qt p.1 ++ 58 :: txt num n p.2) (fun p => WF n p.2) := by
      refine ⟨fun p _ => ⟨34, _, rfl, by unfold noD; decide⟩, fun p q h1 h2 r s hr hs h => ?_⟩
      simp only [List.append_assoc, List.cons_append] at h
      obtain ⟨k1, k2⟩ := qt_inj h
      simp only [List.cons.injEq, true_and] at k2
      obtain ⟨k3, k4⟩ := ih.2 p.2 q.2 h1 h2 r s hr hs k2
      exact ⟨Prod.ext k1 k3, k4⟩
    refine ⟨fun v h => (txt_head hn (n + 1) v h).imp fun c ⟨l, e1, e2, _⟩ => ⟨l, e1, e2⟩, fun a b ha hb r s hr hs h => ?_⟩
    have hk : a.1.1 = b.1.1 := head_kd (n := n + 1) hn ha hb h
    obtain ⟨ba, la, ma⟩ := a
    obtain ⟨bb, lb, mb⟩ := b
    obtain ⟨a1, a2, a3, a4, a5⟩ := ha
    obtain ⟨b1, b2, b3, b4, b5⟩ := hb
    simp only at *
    have h : (if ba.1 = 4 then 91 :: (lst (txt num n) la ++ [93]) else if ba.1 = 5 then 123 :: (lst (fun p : W × T n => qt p.1 ++ 58 :: txt num n p.2) ma ++ [125]) else txtB num ba) ++ r =
        (if bb.1 = 4 then 91 :: (lst (txt num n) lb ++ [93]) else if bb.1 = 5 then 123 :: (lst (fun p : W × T n => qt p.1 ++ 58 :: txt num n p.2) mb ++ [125]) else txtB num bb) ++ s := h
    by_cases q4 : ba.1 = 4
    · have q4' : bb.1 = 4 := hk ▸ q4
      rw [if_pos q4, if_pos q4'] at h
      simp only [List.cons_append, List.append_assoc, List.cons.injEq, true_and, List.nil_append] at h
      obtain ⟨e1, e2⟩ := lst_inj ih (.inl rfl) la lb a4 b4 r s h
      have m1 : ma = [] := a3.resolve_left (by omega)
      have m2 : mb = [] := b3.resolve_left (by omega)
      exact ⟨by rw [base_eq a1 b1 hk (.inl q4), e1, m1, m2], e2⟩
    · have q4' : ¬ bb.1 = 4 := fun e => q4 (hk.trans e)
      rw [if_neg q4, if_neg q4'] at h
      by_cases q5 : ba.1 = 5
      · have q5' : bb.1 = 5 := hk ▸ q5
        rw [if_pos q5, if_pos q5'] at h
        simp only [List.cons_append, List.append_assoc, List.cons.injEq, true_and, List.nil_append] at h
        obtain ⟨e1, e2⟩ := lst_inj hp (.inr rfl) ma mb a5 b5 r s h
        have m1 : la = [] := a2.resolve_left (by omega)
        have m2 : lb = [] := b2.resolve_left (by omega)
        exact ⟨by rw [base_eq a1 b1 hk (.inr q5), e1, m1, m2], e2⟩
      · have q5' : ¬ bb.1 = 5 := fun e => q5 (hk.trans e)
        rw [if_neg q5, if_neg q5'] at h
        obtain ⟨e1, e2⟩ := txtB_inj hn a1 b1 q4 q5 hk hr hs h
        have l1 : la = [] := a2.resolve_left (by omega)
        have l2 : lb = [] := b2.resolve_left (by omega)
        have m1 : ma = [] := a3.resolve_left (by omega)
        have m2 : mb = [] := b3.resolve_left (by omega)
        exact ⟨by rw [e1, l1, l2, m1, m2], e2⟩
theorem txt_inj {num : Int → W} (hn : Num num) {n : Nat} {a b : T n} (ha : WF n a) (hb : WF n b) (h : txt num n a = txt num n b) : a = b :=
  ((txt_good hn n).2 a b ha hb [] [] trivial trivial (by rw [h])).1
end ValLaw
/-
  Values: plain laws: numbers as they are written; how many values there are in one, and how long its text is.
-/
namespace ValLaw
open Go.Lib

theorem dig_nat {d : Nat} (h : d < 10) : (UInt8.ofNat (48 + d)).toNat = 48 + d := by
  simp only [UInt8.toNat_ofNat']
  omega
def valD (l : W) : Nat := l.foldl (fun a b => 10 * a + (b.toNat - 48)) 0
theorem valD_dd (u : Nat) : valD (decDigits u) = u := by
  induction u using Nat.strongRecOn with
  | _ u ih =>
    rw [decDigits]
    split
    · rename_i h
      show 10 * 0 + ((UInt8.ofNat (48 + u)).toNat - 48) = u
      rw [dig_nat h]; omega
    · rename_i h
      have h1 := ih (u / 10) (by omega)
      unfold valD at h1 ⊢
      rw [List.foldl_append, h1]
      show 10 * (u / 10) + ((UInt8.ofNat (48 + u % 10)).toNat - 48) = u
      rw [dig_nat (by omega)]; omega
theorem dd_digits (u : Nat) : ∀ b ∈ decDigits u, 48 ≤ b ∧ b ≤ 57 := by
  induction u using Nat.strongRecOn with
  | _ u ih =>
    intro b hb
    have key : ∀ d : Nat, d < 10 → (48 : UInt8) ≤ UInt8.ofNat (48 + d) ∧ UInt8.ofNat (48 + d) ≤ 57 := by
      intro d hd
      rw [UInt8.le_iff_toNat_le, UInt8.le_iff_toNat_le, dig_nat hd]
      have e1 : (48 : UInt8).toNat = 48 := rfl
      have e2 : (57 : UInt8).toNat = 57 := rfl
      omega
    rw [decDigits] at hb
    split at hb
    · rename_i h
      rw [List.mem_singleton.1 hb]
      exact key u h
    · rcases List.mem_append.1 hb with hb | hb
      · exact ih (u / 10) (by omega) b hb
      · rw [List.mem_singleton.1 hb]
        exact key _ (by omega)
theorem dd_ne (u : Nat) : decDigits u ≠ [] := by
  rw [decDigits]
  split <;> simp
theorem dd_len (k : Nat) : ∀ u, u < 10 ^ (k + 1) → (decDigits u).length ≤ k + 1 := by
  induction k with
  | zero => intro u h; rw [decDigits, dif_pos (by omega)]; simp
  | succ k ih =>
    intro u h
    rw [decDigits]
    split
    · simp
    · have := ih (u / 10) (by rw [Nat.pow_succ] at h; omega)
      simp
      omega
theorem itoa_num : Num itoa := by
  have h45 : ∀ u : Nat, ∀ l : W, decDigits u ≠ 45 :: l := fun u l h => by
    have := (dd_digits u 45 (by rw [h]; simp)).1
    exact absurd this (by decide)
  refine ⟨fun a b h => ?_, fun a c hc => ?_, fun a h => ?_⟩
  · unfold itoa at h
    split at h <;> split at h
    · simp only [List.cons.injEq, true_and] at h
      have := congrArg valD h
      rw [valD_dd, valD_dd] at this
      omega
    · exact absurd h.symm (h45 _ _)
    · exact absurd h (h45 _ _)
    · have := congrArg valD h
      rw [valD_dd, valD_dd] at this
      omega
  · unfold itoa at hc
    split at hc
    · rcases List.mem_cons.1 hc with rfl | hc
      · exact .inl rfl
      · exact .inr (dd_digits _ c hc)
    · exact .inr (dd_digits _ c hc)
  · unfold itoa at h
    split at h
    · cases h
    · exact dd_ne _ h
theorem itoa_len {n : Int} (h0 : -1000000000000000 ≤ n) (h1 : n ≤ 1000000000000000) : (itoa n).length ≤ 17 := by
  unfold itoa
  split
  · have := dd_len 15 n.natAbs (by omega)
    rw [List.length_cons]; omega
  · have := dd_len 15 n.toNat (by omega)
    omega
/-! sizes -/
def sumL {α : Type} (f : α → Nat) : List α → Nat
  | [] => 0
  | x :: l => f x + sumL f l
theorem sumL_le {α : Type} {f : α → Nat} {k : Nat} : ∀ {l : List α}, (∀ x ∈ l, f x ≤ k) → sumL f l ≤ k * l.length
  | [], _ => Nat.zero_le _
  | x :: l, h => by
    have h1 := h x (by simp)
    have h2 := sumL_le (l := l) (f := f) (k := k) fun y hy => h y (by simp [hy])
    rw [sumL, List.length_cons, Nat.mul_succ]; omega
def sz : (n : Nat) → T n → Nat
  | 0, _ => 1
  | n + 1, v => 1 + sumL (sz n) v.2.1 + sumL (fun p : W × T n => sz n p.2) v.2.2
theorem sz_pos : ∀ (n : Nat) (v : T n), 1 ≤ sz n v
  | 0, _ => Nat.le_refl _
  | n + 1, v => by show 1 ≤ 1 + _ + _; omega
/-- What is short enough: words, names, numbers. -/
def sh : (n : Nat) → T n → Prop
  | 0, b => (escs b.2.2.2).length ≤ 15 ∧ -1000000000000000 ≤ b.2.2.1 ∧ b.2.2.1 ≤ 1000000000000000
  | n + 1, v => ((escs v.1.2.2.2).length ≤ 15 ∧ -1000000000000000 ≤ v.1.2.2.1 ∧ v.1.2.2.1 ≤ 1000000000000000) ∧ (∀ x ∈ v.2.1, sh n x) ∧ (∀ p ∈ v.2.2, (escs p.1).length ≤ 3 ∧ sh n p.2)
theorem lst_len {α : Type} (f : α → W) : ∀ l : List α, (lst f l).length ≤ sumL (fun x => (f x).length + 1) l
  | [] => Nat.le_refl _
  | [x] => by simp [lst, sumL]
  | x :: y :: l => by
    have := lst_len f (y :: l)
    rw [lst, List.length_append, List.length_cons, sumL]; omega
theorem sumL_mono {α : Type} {f g : α → Nat} : ∀ {l : List α}, (∀ x ∈ l, f x ≤ g x) → sumL f l ≤ sumL g l
  | [], _ => Nat.le_refl _
  | x :: l, h => by
    have h1 := h x (by simp)
    have h2 := sumL_mono (l := l) (f := f) (g := g) fun y hy => h y (by simp [hy])
    rw [sumL, sumL]; omega
theorem sumL_mul {α : Type} {f : α → Nat} (k : Nat) : ∀ l : List α, sumL (fun x => k * f x) l = k * sumL f l
  | [] => rfl
  | x :: l => by rw [sumL, sumL, sumL_mul k l, Nat.mul_add]
theorem txtB_len {b : Base} (h : (escs b.2.2.2).length ≤ 15 ∧ -1000000000000000 ≤ b.2.2.1 ∧ b.2.2.1 ≤ 1000000000000000) : (txtB itoa b).length ≤ 17 := by
  unfold txtB
  split
  · decide
  · split
    · cases b.2.1 <;> decide
    · split
      · exact itoa_len h.2.1 h.2.2
      · unfold qt
        rw [List.length_cons, List.length_append, List.length_singleton]; omega
theorem txt_len : ∀ (n : Nat) (v : T n), sh n v → (txt itoa n v).length + 10 ≤ 30 * sz n v
  | 0, b, h => by
    have := txtB_len h
    show (if b.1 = 4 then [91, 93] else if b.1 = 5 then [123, 125] else txtB itoa b).length + 10 ≤ 30 * 1
    split
    · decide
    · split
      · decide
      · omega
  | n + 1, v, h => by
    obtain ⟨h1, h2, h3⟩ := h
    have hb := txtB_len h1
    have k1 := lst_len (txt itoa n) v.2.1
    have k2 := sumL_mono (l := v.2.1) (f := fun x => (txt itoa n x).length + 1) (g := fun x => 30 * sz n x) fun x hx => by
      have := txt_len n x (h2 x hx)
      show _ + 1 ≤ 30 * sz n x
      omega
    rw [sumL_mul] at k2
    have m1 := lst_len (fun p : W × T n => qt p.1 ++ 58 :: txt itoa n p.2) v.2.2
    have m2 := sumL_mono (l := v.2.2) (f := fun p : W × T n => (qt p.1 ++ 58 :: txt itoa n p.2).length + 1) (g := fun p => 30 * sz n p.2) fun p hp => by
      have e := txt_len n p.2 (h3 p hp).2
      have e2 := (h3 p hp).1
      show (qt p.1 ++ 58 :: txt itoa n p.2).length + 1 ≤ 30 * sz n p.2
      unfold qt
      rw [List.length_append, List.length_cons, List.length_append, List.length_singleton, List.length_cons]
      omega
    rw [sumL_mul (f := fun p : W × T n => sz n p.2)] at m2
    show (if v.1.1 = 4 then 91 :: (lst (txt itoa n) v.2.1 ++ [93]) else if v.1.1 = 5 then 123 :: (lst (fun p : W × T n => qt p.1 ++ 58 :: txt itoa n p.2) v.2.2 ++ [125]) else txtB itoa v.1).length + 10 ≤ 30 * (1 + sumL (sz n) v.2.1 + sumL (fun p : W × T n => sz n p.2) v.2.2)
    split
    · rw [List.length_cons, List.length_append, List.length_singleton]; omega
    · split
      · rw [List.length_cons, List.length_append, List.length_singleton]; omega
      · omega
end ValLaw

namespace Go.Proofs.YtmclppkligkooaaGreatDoor
open Go.Ev Go.RowKit

/-- A string of bytes. -/
def bl (l : List UInt8) : ByteArray := ⟨l.toArray⟩
theorem bl_list (l : List UInt8) : (bl l).data.toList = l := by simp [bl]
theorem bl_inj {a b : List UInt8} (h : bl a = bl b) : a = b := by rw [← bl_list a, h, bl_list]
def mbr (w : List UInt8) (x : Value) : Value := .agg ⟨.string (bl w) :: x.cells.toList⟩
def enc : (n : Nat) → ValLaw.T n → Value
  | 0, b => vV b.1 b.2.1 b.2.2.1 (bl b.2.2.2) [] []
  | n + 1, v => vV v.1.1 v.1.2.1 v.1.2.2.1 (bl v.1.2.2.2) (v.2.1.map (enc n)) (v.2.2.map fun p => mbr p.1 (enc n p.2))
theorem enc_e6 : ∀ (n : Nat) (v : ValLaw.T n), enc n v = e6 (enc n v)
  | 0, _ => rfl
  | _ + 1, _ => rfl
theorem mbr_e7 (w : List UInt8) : ∀ (n : Nat) (v : ValLaw.T n), mbr w (enc n v) = e7 (mbr w (enc n v))
  | 0, _ => rfl
  | _ + 1, _ => rfl
theorem mbr_m6 (w : List UInt8) : ∀ (n : Nat) (v : ValLaw.T n), m6 (mbr w (enc n v)) = enc n v
  | 0, _ => rfl
  | _ + 1, _ => rfl
theorem sumK_map {α : Type} (g : α → Value) (f : α → Nat) : ∀ l : List α, sumK (l.map fun x => (g x, f x)) = ValLaw.sumL f l
  | [] => rfl
  | x :: l => by rw [List.map_cons, sumK, sumK_map g f l]; rfl
theorem lg_enc : ∀ (n : Nat) (v : ValLaw.T n), Lg (n + 1) (enc n v) (ValLaw.sz n v)
  | 0, b => lg_step (m := 0) b.1 b.2.1 b.2.2.1 (bl b.2.2.2) [] [] (by simp) (by simp)
  | n + 1, v => by
    have h := lg_step (m := n + 1) v.1.1 v.1.2.1 v.1.2.2.1 (bl v.1.2.2.2) (v.2.1.map fun x => (enc n x, ValLaw.sz n x)) (v.2.2.map fun p : ValLaw.W × ValLaw.T n => (mbr p.1 (enc n p.2), ValLaw.sz n p.2))
      (fun p hp => by
        obtain ⟨x, _, rfl⟩ := List.mem_map.1 hp
        exact ⟨ValLaw.sz_pos n x, lg_enc n x⟩)
      (fun p hp => by
        obtain ⟨x, _, rfl⟩ := List.mem_map.1 hp
        refine ⟨ValLaw.sz_pos n x.2, mbr_e7 x.1 n x.2, ?_⟩
        show Lg (n + 1) (m6 (mbr x.1 (enc n x.2))) _
        rw [mbr_m6]
        exact lg_enc n x.2)
    rw [sumK_map, sumK_map (fun p : ValLaw.W × ValLaw.T n => mbr p.1 (enc n p.2)) (fun p : ValLaw.W × ValLaw.T n => ValLaw.sz n p.2), List.map_map, List.map_map] at h
    exact h
end Go.Proofs.YtmclppkligkooaaGreatDoor
