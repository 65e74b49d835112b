/-
  Limits: two meters stay alike: what an ask makes of a state.
-/
import Derived.Test.YtbigicdojndnjaaGreatDoorLkG
namespace Go.Proofs.YtbigicdojndnjaaGreatDoor
open Go.Ev Go.RowKit LimLaw

/-- Who is known, in order. -/
inductive Sh (α : Type) where
  | e
  | a (x : α)
  | b (x : α)
  | ab (x y : α)
  | ba (x y : α)
def Sh.All {α : Type} (P : α → Prop) : Sh α → Prop
  | .e => True
  | .a x => P x
  | .b x => P x
  | .ab x y => P x ∧ P y
  | .ba x y => P x ∧ P y
theorem Sh.All.mono {α : Type} {P Q : α → Prop} (h : ∀ x, P x → Q x) : ∀ {s : Sh α}, s.All P → s.All Q
  | .e, _ => trivial
  | .a _, k => h _ k
  | .b _, k => h _ k
  | .ab _ _, k => ⟨h _ k.1, h _ k.2⟩
  | .ba _ _, k => ⟨h _ k.1, h _ k.2⟩
structure At3 (ys : List Value) (n i now : Int) (a : A4) : Prop where
  lt : i < n
  ge : 0 ≤ i
  size : i < ((Array.mk ys).size : Int)
  el : elA ys i = akV (atA ys i)
  is : akC (atA ys i) = akC a
  ok : akOK a = true
  le : now ≤ a.1
theorem at3_in {ys : List Value} {n i now t co lo : Int} {w : ByteArray} (h : At3 ys n i now (t, w, co, lo)) : 0 ≤ t ∧ t < 345686400000 ∧ 1 ≤ co ∧ co ≤ 1000000000 ∧ 0 ≤ lo ∧ lo ≤ 345686400000 := by
  have := h.ok
  unfold akOK at this
  simp only [Bool.and_eq_true, decide_eq_true_eq] at this
  obtain ⟨⟨⟨⟨⟨⟨h0, h1⟩, _⟩, h2⟩, h3⟩, h4⟩, h5⟩ := this
  exact ⟨h0, h1, h2, h3, h4, h5⟩
theorem ak3 {ys : List Value} {n i now t co lo : Int} {w : ByteArray} (h : At3 ys n i now (t, w, co, lo)) {R X : Prop} (x : X) : (bif akOK (t, w, co, lo) then (bif decide (t < now) then R else X) else False) :=
  need_mk h.ok (pick_f (decide_eq_false (by have := h.le; simp only at this; omega)) x)
theorem rnd3 {ys : List Value} {n i now t co lo : Int} {w : ByteArray} (h : At3 ys n i now (t, w, co, lo)) {R V E : Prop} (v : V) :
    (bif decide (i < n) then bif decide (0 ≤ i) && decide (i < ((Array.mk ys).size : Int)) && true then elA ys i = akV (atA ys i) ∧ akC (atA ys i) = akC (t, w, co, lo) ∧ (bif akOK (t, w, co, lo) then (bif decide (t < now) then R else V) else False) else False else E) :=
  pick_t (decide_eq_true h.lt) (need_mk (by rw [decide_eq_true h.ge, decide_eq_true h.size]; rfl) ⟨h.el, h.is, ak3 h v⟩)
theorem eqv (w : Int) : (!(false == false && (keyB == keyB && (w == w && true)))) = false := by
  have : (keyB == keyB) = true := by decide +kernel
  rw [this]; simp
theorem nP_mk {l : List Value} {X : Prop} (h : NoNames (.cells ⟨l⟩ 347 (1, 1))) (x : X) : nP l X := ⟨h, x⟩
theorem nnL2 (L : List P2) : NoNames (.cells ⟨L.flatMap pcC⟩ 347 (1, 1)) := nnF L 347 (1, 1)
/-! windows -/
def GW (_ : Int) (i : Nat) (x : Int × Int) : Prop := 0 ≤ x.2 ∧ x.2 ≤ 1000000000 * i
theorem usW_in {p x y t : Int} (h : 0 ≤ y) : 0 ≤ usW p x y t ∧ usW p x y t ≤ y := by
  unfold usW
  cases (IntKind.i64.wrap (t.tdiv p) != x) <;> simp only [cond_true, cond_false] <;> omega
theorem vW2_or {m p b x y t co : Int} (hp : p ≠ 0) (hm : okM m) {i : Nat} {now : Int} (hi : i ≤ 100) (hg : GW now i (x, y)) (h1 : 1 ≤ co) (h2 : co ≤ 1000000000) :
    (GW t (i + 1) (IntKind.i64.wrap (t.tdiv p), nW p x y t co) ∧ ∀ (ok : Int → Int → Prop) (no : Int → Prop), ok (IntKind.i64.wrap (t.tdiv p)) (nW p x y t co) → vW2 m p b x y t co ok no) ∨ ∃ w, ∀ (ok : Int → Int → Prop) (no : Int → Prop), no w → vW2 m p b x y t co ok no := by
  have hc : (true && !decide (p = 0)) = true := by simp [hp]
  have hc2 : (true && !decide (p = 0) && true) = true := by simp [hp]
  have hu := usW_in (p := p) (x := x) (y := y) (t := t) hg.1
  have hg2 := hg.2
  simp only at hg2
  by_cases q : co ≤ moW m p x y t
  · refine .inl ⟨?_, fun ok no h => need_mk hc (pick_t (decide_eq_true q) (need_mk hc2 h))⟩
    have : nW p x y t co = usW p x y t + co := wrap_id _ (by omega) (by omega)
    constructor <;> simp only <;> rw [this] <;> omega
  · by_cases q2 : co ≤ m
    · exact .inr ⟨_, fun ok no h => need_mk hc (pick_f (decide_eq_false q) (pick_t (decide_eq_true q2) (need_mk hc h)))⟩
    · exact .inr ⟨_, fun ok no h => need_mk hc (pick_f (decide_eq_false q) (pick_f (decide_eq_false q2) h))⟩
theorem moW_in {m p x y t : Int} (hm : okM m) {i : Nat} {now : Int} (hi : i ≤ 100) (hg : GW now i (x, y)) : moW m p x y t ≤ 5 := by
  have hu := usW_in (p := p) (x := x) (y := y) (t := t) hg.1
  have hg2 := hg.2
  have hm5 := okM_in hm
  simp only at hg2
  unfold moW
  rw [wrap_id _ (by omega) (by omega)]
  omega
/-! buckets -/
def GB (p b : Int) (now : Int) (_ : Nat) (x : Int × Int) : Prop := 0 ≤ x.1 ∧ x.1 ≤ now ∧ 0 ≤ x.2 ∧ x.2 ≤ b * p
theorem full2 {p b : Int} (hp : okPer p) (hb : okBu b) : 1 ≤ p ∧ p ≤ 100 ∧ 1 ≤ b ∧ b ≤ 5 ∧ 1 ≤ b * p ∧ b * p ≤ 500 := by
  have h1 := okPer_in hp
  have h2 := okBu_in hb
  refine ⟨h1.1, h1.2, h2.1, h2.2, ?_⟩
  rcases hb with rfl | rfl | rfl <;> omega
theorem nwB_in {m p b x y t : Int} (hm : okM m) (hp : okPer p) (hb : okBu b) (h0 : 0 ≤ x) (h1 : x ≤ t) (h2 : 0 ≤ y) (h3 : y ≤ b * p) (ht : t < 345686400000) : 0 ≤ nwB m p b x y t ∧ nwB m p b x y t ≤ b * p := by
  obtain ⟨_, _, _, _, f1, f2⟩ := full2 hp hb
  generalize hf : b * p = f at *
  have e1 : IntKind.i64.wrap f = f := wrap_id _ (by omega) (by omega)
  have e2 : IntKind.i64.wrap (f - y) = f - y := wrap_id _ (by omega) (by omega)
  have e3 : IntKind.i64.wrap (t - x) = t - x := wrap_id _ (by omega) (by omega)
  unfold nwB
  rw [hf, e1, e2, e3]
  have e4 : IntKind.i64.wrap (m * (t - x)) = m * (t - x) := wrap_id _ (by rcases hm with rfl | rfl | rfl | rfl <;> omega) (by rcases hm with rfl | rfl | rfl | rfl <;> omega)
  rw [e4, wrap_id (y + m * (t - x)) (by rcases hm with rfl | rfl | rfl | rfl <;> omega) (by rcases hm with rfl | rfl | rfl | rfl <;> omega)]
  have e5 : (f - y).tdiv m = (f - y) / m := Int.tdiv_eq_ediv_of_nonneg (by omega)
  have e6 : (f - y).tmod m = (f - y) % m := Int.tmod_eq_emod_of_nonneg (by omega)
  have e7 : IntKind.i64.wrap ((f - y) / m) = (f - y) / m := wrap_id _ (by rcases hm with rfl | rfl | rfl | rfl <;> omega) (by rcases hm with rfl | rfl | rfl | rfl <;> omega)
  have e8 : IntKind.i64.wrap ((f - y) / m + 1) = (f - y) / m + 1 := wrap_id _ (by rcases hm with rfl | rfl | rfl | rfl <;> omega) (by rcases hm with rfl | rfl | rfl | rfl <;> omega)
  unfold upB
  rw [e5, e6, e7, e8]
  cases q : ((f - y) % m != 0) with
  | true =>
    simp only [cond_true]
    by_cases r : t - x ≥ (f - y) / m + 1
    · rw [decide_eq_true r]; simp only [cond_true]; omega
    · rw [decide_eq_false r]; simp only [cond_false]
      rcases hm with rfl | rfl | rfl | rfl <;> omega
  | false =>
    simp only [cond_false]
    have q : (f - y) % m = 0 := by simpa using q
    by_cases r : t - x ≥ (f - y) / m
    · rw [decide_eq_true r]; simp only [cond_true]; omega
    · rw [decide_eq_false r]; simp only [cond_false]
      rcases hm with rfl | rfl | rfl | rfl <;> omega
theorem moB_in {m p b x y t : Int} (hm : okM m) (hp : okPer p) (hb : okBu b) (h0 : 0 ≤ x) (h1 : x ≤ t) (h2 : 0 ≤ y) (h3 : y ≤ b * p) (ht : t < 345686400000) : moB m p b x y t = nwB m p b x y t / p ∧ 0 ≤ moB m p b x y t ∧ moB m p b x y t ≤ 5 := by
  obtain ⟨n1, n2⟩ := nwB_in hm hp hb h0 h1 h2 h3 ht
  obtain ⟨_, _, _, _, f1, f2⟩ := full2 hp hb
  unfold moB
  generalize nwB m p b x y t = v at *
  have e5 : v.tdiv p = v / p := Int.tdiv_eq_ediv_of_nonneg (by omega)
  have k : 0 ≤ v / p ∧ v / p ≤ 5 := by
    rcases hb with rfl | rfl | rfl <;> rcases hp with rfl | rfl | rfl | rfl | rfl <;> omega
  rw [e5, wrap_id _ (by omega) (by omega)]
  exact ⟨rfl, k⟩
theorem vB2_or {m p b x y t co : Int} (hm : okM m) (hp : okPer p) (hb : okBu b) {i : Nat} {now : Int} (hg : GB p b now i (x, y)) (hn : now ≤ t) (ht : t < 345686400000) (h1 : 1 ≤ co) (h2 : co ≤ 1000000000) :
    (GB p b t (i + 1) (t, lvB m p b x y t co) ∧ ∀ (ok : Int → Int → Prop) (no : Int → Prop), ok t (lvB m p b x y t co) → vB2 m p b x y t co ok no) ∨ ∃ w, ∀ (ok : Int → Int → Prop) (no : Int → Prop), no w → vB2 m p b x y t co ok no := by
  obtain ⟨g1, g2, g3, g4⟩ := hg
  simp only at g1 g2 g3 g4
  have hp1 := okPer_in hp
  have hm1 := okM_in hm
  have hc : (true && (!decide (p = 0) && !decide (m = 0))) = true := by
    have a1 : p ≠ 0 := by omega
    have a2 : m ≠ 0 := by omega
    simp [a1, a2]
  have hc2 : (true && (!decide (p = 0) && !decide (m = 0)) && true) = true := by rw [hc]; rfl
  obtain ⟨k1, k2, k3⟩ := moB_in hm hp hb g1 (by omega) g3 g4 ht
  obtain ⟨n1, n2⟩ := nwB_in hm hp hb g1 (t := t) (by omega) g3 g4 ht
  obtain ⟨_, _, _, _, f1, f2⟩ := full2 hp hb
  by_cases q : co ≤ moB m p b x y t
  · refine .inl ⟨?_, fun ok no h => need_mk hc (pick_t (decide_eq_true q) (need_mk hc2 h))⟩
    have hcp : 0 ≤ co * p ∧ co * p ≤ nwB m p b x y t := by
      rw [k1] at q
      generalize nwB m p b x y t = v at *
      have hc5 : co ≤ 5 := by omega
      rcases hp with rfl | rfl | rfl | rfl | rfl <;> omega
    have e1 : IntKind.i64.wrap (co * p) = co * p := wrap_id _ (by omega) (by omega)
    unfold lvB
    rw [e1, wrap_id _ (by omega) (by omega)]
    exact ⟨by show 0 ≤ t; omega, Int.le_refl _, by show 0 ≤ nwB m p b x y t - co * p; omega, by show nwB m p b x y t - co * p ≤ b * p; omega⟩
  · by_cases q2 : co ≤ b
    · exact .inr ⟨_, fun ok no h => need_mk hc (pick_f (decide_eq_false q) (pick_t (decide_eq_true q2) (need_mk hc h)))⟩
    · exact .inr ⟨_, fun ok no h => need_mk hc (pick_f (decide_eq_false q) (pick_f (decide_eq_false q2) h))⟩
/-! rows -/
def GR (_ : Int) (i : Nat) (L : List P2) : Prop := L.length ≤ i ∧ ∀ x ∈ L, 0 ≤ x.2 ∧ x.2 ≤ 1000000000
theorem sum_in (t : Int) : ∀ (L : List P2) (s : Int), (∀ x ∈ L, 0 ≤ x.2 ∧ x.2 ≤ 1000000000) → 0 ≤ s → s + 1000000000 * L.length ≤ 1000000000000000 → s ≤ sumP t s L ∧ sumP t s L ≤ s + 1000000000 * L.length
  | [], s, _, _, _ => ⟨Int.le_refl _, by simp [sumP]⟩
  | x :: L, s, h, h0, h1 => by
    have hx := h x (by simp)
    have hl : ((x :: L).length : Int) = (L.length : Int) + 1 := by simp
    rw [hl] at h1 ⊢
    unfold sumP
    cases decide (x.1 > t) with
    | true =>
      simp only [cond_true]
      rw [wrap_id _ (by omega) (by omega)]
      have := sum_in t L (s + x.2) (fun y hy => h y (by simp [hy])) (by omega) (by omega)
      omega
    | false =>
      simp only [cond_false]
      have := sum_in t L s (fun y hy => h y (by simp [hy])) h0 (by omega)
      omega
theorem GR_filter {t now : Int} {i : Nat} {L : List P2} (h : GR now i L) : GR t i (L.filter (keep t)) :=
  ⟨Nat.le_trans (List.length_filter_le _ _) h.1, fun x hx => h.2 x (List.mem_filter.1 hx).1⟩
theorem GR_wi {t u c : Int} {i : Nat} {L : List P2} (h : GR t i L) (h1 : 1 ≤ c) (h2 : c ≤ 1000000000) : GR t (i + 1) (wiL u c L) := by
  refine ⟨by rw [wiL_len]; have := h.1; omega, fun x hx => ?_⟩
  unfold wiL insL at hx
  rcases List.mem_append.1 hx with q | q
  · exact h.2 x (List.mem_of_mem_take q)
  · rcases List.mem_cons.1 q with q | q
    · rw [q]; exact ⟨by show 0 ≤ c; omega, h2⟩
    · exact h.2 x (List.mem_of_mem_drop q)
theorem GR_up {t now : Int} {i : Nat} {L : List P2} (h : GR now i L) : GR t (i + 1) L := ⟨Nat.le_succ_of_le h.1, h.2⟩
theorem row_c {L : List P2} (h : L.length ≤ 1000) : (Nat.beq L.length L.length && okC L.length (L.flatMap pcC) && Nat.ble L.length 1000) = true := by
  rw [Nat.beq_refl, okC_iff.2 ⟨L, rfl, rfl⟩, Nat.ble_eq_true_of_le h]; rfl
theorem kpL_eq {t : Int} (L : List P2) : kpL t L.length (L.flatMap pcC) = L.filter (keep t) := by unfold kpL; rw [rdL_flat]
theorem with_mk {u c : Int} {F : List P2} (h : F.length ≤ 1000) {ok : Nat → List Value → Prop} (x : ok (wiL u c F).length ((wiL u c F).flatMap pcC)) :
    (bif Nat.beq F.length F.length && okC F.length (F.flatMap pcC) && Nat.ble F.length 1000 && true then ok (F.length + 1) ((wiL u c (rdL F.length (F.flatMap pcC))).flatMap pcC) else False) := by
  rw [wiL_len] at x
  rw [rdL_flat]
  exact need_mk (by rw [row_c h]; rfl) x
theorem vR_or {m p l t c now : Int} {i : Nat} {L : List P2} (hi : i ≤ 100) (hg : GR now i L) (h1 : 1 ≤ c) (h2 : c ≤ 1000000000) :
    (∃ L', GR t (i + 1) L' ∧ ∀ (ok : Nat → List Value → Prop) (no : Int → Prop), ok L'.length (L'.flatMap pcC) → vR m p l L.length (L.flatMap pcC) t c ok no) ∨ ∃ w, ∀ (ok : Nat → List Value → Prop) (no : Int → Prop), no w → vR m p l L.length (L.flatMap pcC) t c ok no := by
  have hl : L.length ≤ 1000 := by have := hg.1; omega
  have hF := GR_filter (t := t) hg
  have hFl : (L.filter (keep t)).length ≤ 1000 := by have := hF.1; omega
  by_cases q : c ≤ IntKind.i64.wrap (m - sumP t 0 (rdL L.length (L.flatMap pcC)))
  · refine .inl ⟨wiL (IntKind.i64.wrap (t + p)) c (L.filter (keep t)), GR_wi hF h1 h2, fun ok no h => need_mk (row_c hl) (pick_t (decide_eq_true q) (need_mk (by rw [row_c hl]; rfl) ?_))⟩
    rw [kpL_eq]
    exact with_mk hFl h
  · by_cases q2 : c ≤ m
    · exact .inr ⟨_, fun ok no h => need_mk (row_c hl) (pick_f (decide_eq_false q) (pick_t (decide_eq_true q2) (need_mk (row_c hl) h)))⟩
    · exact .inr ⟨_, fun ok no h => need_mk (row_c hl) (pick_f (decide_eq_false q) (pick_f (decide_eq_false q2) h))⟩
theorem vL_or {m p l t c now : Int} {i : Nat} {L : List P2} (hi : i ≤ 100) (hg : GR now i L) (h1 : 1 ≤ c) (h2 : c ≤ 1000000000) :
    (∃ L', GR t (i + 1) L' ∧ ∀ (ok : Nat → List Value → Prop) (no : Int → Prop), ok L'.length (L'.flatMap pcC) → vL m p l L.length (L.flatMap pcC) t c ok no) ∨ ∃ w, ∀ (ok : Nat → List Value → Prop) (no : Int → Prop), no w → vL m p l L.length (L.flatMap pcC) t c ok no := by
  have hl : L.length ≤ 1000 := by have := hg.1; omega
  have hF := GR_filter (t := t) hg
  have hFl : (L.filter (keep t)).length ≤ 1000 := by have := hF.1; omega
  by_cases q : c ≤ IntKind.i64.wrap (m - sumP t 0 (rdL L.length (L.flatMap pcC)))
  · by_cases q3 : l > 0
    · refine .inl ⟨wiL (IntKind.i64.wrap (t + l)) c (L.filter (keep t)), GR_wi hF h1 h2, fun ok no h => need_mk (row_c hl) (pick_t (decide_eq_true q) (need_mk (by rw [row_c hl]; rfl) (pick_t (decide_eq_true q3) ?_)))⟩
      rw [kpL_eq]
      exact with_mk hFl h
    · refine .inl ⟨L.filter (keep t), GR_up hF, fun ok no h => need_mk (row_c hl) (pick_t (decide_eq_true q) (need_mk (by rw [row_c hl]; rfl) (pick_f (decide_eq_false q3) ?_)))⟩
      rw [kpL_eq]
      exact h
  · by_cases q2 : c ≤ m
    · exact .inr ⟨_, fun ok no h => need_mk (row_c hl) (pick_f (decide_eq_false q) (pick_t (decide_eq_true q2) (need_mk (row_c hl) h)))⟩
    · exact .inr ⟨_, fun ok no h => need_mk (row_c hl) (pick_f (decide_eq_false q) (pick_f (decide_eq_false q2) h))⟩
theorem v0_or (m c : Int) : (∀ (ok : Prop) (no : Int → Prop), ok → v0 m c ok no) ∨ ∃ w, ∀ (ok : Prop) (no : Int → Prop), no w → v0 m c ok no := by
  by_cases q : c ≤ IntKind.i64.wrap (m - 0)
  · exact .inl fun ok no h => pick_t (decide_eq_true q) h
  · by_cases q2 : c ≤ m
    · exact .inr ⟨_, fun ok no h => pick_f (decide_eq_false q) (pick_t (decide_eq_true q2) h)⟩
    · exact .inr ⟨_, fun ok no h => pick_f (decide_eq_false q) (pick_f (decide_eq_false q2) h)⟩
theorem GR_one {t u c : Int} (i : Nat) (h1 : 1 ≤ c) (h2 : c ≤ 1000000000) : GR t (i + 1) [(u, c)] := ⟨by simp, fun x hx => by rw [List.mem_singleton.1 hx]; exact ⟨by show 0 ≤ c; omega, h2⟩⟩
end Go.Proofs.YtbigicdojndnjaaGreatDoor
