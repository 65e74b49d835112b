/-
  Limits: the loop over the asks.
-/
import Derived.Test.YtbigicdojndnjaaGreatDoorLkL
namespace Go.Proofs.YtbigicdojndnjaaGreatDoor
open Go.Ev Go.RowKit LimLaw

noncomputable def gh (a : A4) : Hooks := ghost1 12 (tellB 12 (akC a))
theorem gh_ok (a : A4) : LoopsOK 0 Tryz.prog 150 (gh a) (oneLoop (codeOf Tryz.f4) 11) := ghosts_one (by kernel_rfl) (tellB_ok _ _ _ _ _)
/-- What a round owes. -/
def RoundE {α : Type} (H : Sh α → Int → AH) (G : Int → Nat → α → Prop) : Prop :=
  ∀ (ys : List Value) (at_ n i now : Int) (a : A4) (s : Sh α) (j : Nat), At3 ys n i now a → (a.2.1 = annB ∨ a.2.1 = bobB) → j ≤ 100 → s.All (G now j) → ∃ s' : Sh α, s'.All (G a.1 (j + 1)) ∧
    ∀ (B : List Value → AH → Prop) (Q : AExit → List Value → AH → Prop), B (bV a.1 ys n (IntKind.i64.wrap (i + 1))) (H s' a.1) → once 0 Tryz.prog SLk [] (gh a) 3000 150 [3, 6, 8, 10, 60, 61, 62] [] [2, 3, 6, 8, 10] [] (oneLoop (codeOf Tryz.f4) 11) (bV at_ ys n i) (H s now) B Q
def EndE {α : Type} (H : Sh α → Int → AH) : Prop :=
  ∀ (ys : List Value) (at_ n i now : Int) (s : Sh α), n ≤ i → ∀ (B : List Value → AH → Prop) (Q : AExit → List Value → AH → Prop), Q (.exit 0) (xV at_) (H s now) → once 0 Tryz.prog SLk [] (gh (0, annB, 0, 0)) 3000 150 [3, 6, 8, 10, 60, 61, 62] [] [2, 3, 6, 8, 10] [] (oneLoop (codeOf Tryz.f4) 11) (bV at_ ys n i) (H s now) B Q
/-- An ask's At is the last one's. -/
def lastAt : Int → List A4 → Int
  | at_, [] => at_
  | _, a :: L => lastAt a.1 L
theorem okFrom_last : ∀ {L : List A4} {now : Int}, okFrom now L → 0 ≤ now → now < 345686400000 → now ≤ lastAt now L ∧ lastAt now L < 345686400000
  | [], _, _, _, h => ⟨Int.le_refl _, h⟩
  | a :: L, now, h, _, _ => by
    have k := h.1
    unfold akOK at k
    simp only [Bool.and_eq_true, decide_eq_true_eq] at k
    obtain ⟨⟨⟨⟨⟨⟨k0, k1⟩, _⟩, _⟩, _⟩, _⟩, _⟩ := k
    have := okFrom_last h.2.2 k0 k1
    exact ⟨Int.le_trans h.2.1 this.1, this.2⟩
theorem akOK_who {a : A4} (h : akOK a = true) : a.2.1 = annB ∨ a.2.1 = bobB := by
  unfold akOK at h
  simp only [Bool.and_eq_true] at h
  have := inU_mem h.1.1.1.1.2
  simp only [whoU, List.mem_cons, List.not_mem_nil, or_false] at this
  exact this
theorem lk_loop {α : Type} {H : Sh α → Int → AH} {G : Int → Nat → α → Prop} (hR : RoundE H G) (hE : EndE H) {L : List A4} (hl : L.length ≤ 100) : ∀ (r i : Nat) (at_ now : Int) (s : Sh α), i + r = L.length → s.All (G now i) → okFrom now (L.drop i) →
    ∃ s' : Sh α, s'.All (G (lastAt now (L.drop i)) L.length) ∧ ∀ K : AExit → List Value → AH → Prop, K (.exit 0) (xV (lastAt at_ (L.drop i))) (H s' (lastAt now (L.drop i))) →
      iterE 0 Tryz.prog 150 [3, 6, 8, 10, 60, 61, 62] [] [2, 3, 6, 8, 10] [] (oneLoop (codeOf Tryz.f4) 11) (r + 1) (bV at_ (L.map akV) (L.length : Int) (i : Int)) (H s now) K := by
  intro r
  have hsz : (Array.mk (L.map akV)).size = L.length := by simp
  induction r with
  | zero =>
    intro i at_ now s h1 h2 h3
    rw [List.drop_eq_nil_of_le (by omega)]
    refine ⟨s, by rw [show L.length = i by omega]; exact h2, fun K hK => ⟨SLk, [], gh (0, annB, 0, 0), 3000, SLk_ok, gh_ok _, hE _ _ _ _ _ s (by omega) _ K hK⟩⟩
  | succ r ih =>
    intro i at_ now s h1 h2 h3
    have hi : i < L.length := by omega
    have hdr : L.drop i = L[i] :: L.drop (i + 1) := List.drop_eq_getElem_cons hi
    rw [hdr] at h3 ⊢
    obtain ⟨g1, g2⟩ := getA hi
    have hA : At3 (L.map akV) (L.length : Int) (i : Int) now L[i] := ⟨by omega, by omega, by rw [hsz]; omega, by rw [g2]; exact g1, by rw [g2], h3.1, h3.2.1⟩
    obtain ⟨s1, a1, a2⟩ := hR (L.map akV) at_ (L.length : Int) (i : Int) now L[i] s i hA (akOK_who h3.1) (by omega) h2
    obtain ⟨s2, b1, b2⟩ := ih (i + 1) L[i].1 L[i].1 s1 (by omega) a1 h3.2.2
    refine ⟨s2, b1, fun K hK => ⟨SLk, [], gh L[i], 3000, SLk_ok, gh_ok _, a2 _ K ?_⟩⟩
    rw [wrap1 (by omega)]
    exact b2 K hK
theorem nnP1 (x : P2) : NoNames (.cells ⟨pcC x⟩ 347 (1, 1)) := by
  have := nnF [x] 347 (1, 1)
  simpa using this
end Go.Proofs.YtbigicdojndnjaaGreatDoor
