/-
  Limits: Replay's loop, and the steps of each kind.
-/
import Derived.Test.YteeomeididcdlaaGreatDoorLmF
namespace Go.Proofs.YteeomeididcdlaaGreatDoor
open Go.Ev Go.RowKit LimLaw

def toA (t : Int) : A4 := (t, annB, 1, 0)
theorem aV_ak (L : List Int) : L.map aV = (L.map toA).map akV := by rw [List.map_map]; rfl
def runG {σ : Type} (step : σ → Int → Vd × σ) : σ → List Int → List Vd
  | _, [] => []
  | s, t :: L => (step s t).1 :: runG step (step s t).2 L
theorem runG_len {σ : Type} (step : σ → Int → Vd × σ) : ∀ (L : List Int) (s : σ), (runG step s L).length = L.length
  | [], _ => rfl
  | t :: L, s => by rw [runG, List.length_cons, runG_len step L, List.length_cons]
/-- What an ask at a place is, and what a round owes. -/
structure At (xs : List Value) (n i now t : Int) : Prop where
  lt : i < n
  ge : 0 ≤ i
  size : i < ((Array.mk xs).size : Int)
  el : elA xs i = akV (atA xs i)
  is : akC (atA xs i) = akC (t, annB, 1, 0)
  le : now ≤ t
  pos : 0 ≤ t
  top : t ≤ 1000
theorem akOK_ann {t : Int} (h0 : 0 ≤ t) (h1 : t ≤ 1000) : akOK (t, annB, 1, 0) = true := by
  unfold akOK
  simp only [Bool.and_eq_true, decide_eq_true_eq]
  exact ⟨⟨⟨⟨⟨⟨h0, by omega⟩, rfl⟩, by omega⟩, by omega⟩, by omega⟩, by omega⟩
theorem rnd_at {xs : List Value} {n i now t : Int} (h : At xs n i now t) {E R V : Prop} (v : V) : rndT xs n i now t 1 0 E R V :=
  pick_t (decide_eq_true h.lt) (need_mk (by rw [decide_eq_true h.ge, decide_eq_true h.size]; rfl) ⟨h.el, h.is, need_mk (akOK_ann h.pos h.top) (pick_f (decide_eq_false (by have := h.le; omega)) v)⟩)
theorem rnd_end {xs : List Value} {n i now t : Int} (h : n ≤ i) {E R V : Prop} (e : E) : rndT xs n i now t 1 0 E R V := pick_f (decide_eq_false (by omega)) e
def RoundOK {σ : Type} (same : List Nat) (lc : List Value) (H : σ → List Value → Int → AH) (step : σ → Int → Vd × σ) (good : σ → Int → Prop) : Prop :=
  ∀ (xs oc : List Value) (j : Nat) (s : σ) (n i now t : Int), good s now → ∃ S L f, S.cfg.OK Tryz.prog ∧ LoopsOK 1 Tryz.prog 47 L (oneLoop (codeOf Tryz.f16) 10) ∧ ∀ (B : List Value → AH → Prop) (Q : AExit → List Value → AH → Prop),
    ((At xs n i now t ∧ apT j oc (step s t).1 fun o2 => B (rpV xs (.slice (some ⟨2, 0, none⟩) (j + 1) (j + 1)) n (IntKind.i64.wrap (i + 1))) (H (step s t).2 o2 t)) ∨
      (n ≤ i ∧ NoNames (.cells ⟨oc⟩ 42 (0, 0)) ∧ Q (.exit 0) [.slice (some ⟨1, 0, none⟩) j j] (rpXo lc oc))) →
    once 1 Tryz.prog S [] L f 47 [8, 9, 26, 27, 28] same [9] [1] (oneLoop (codeOf Tryz.f16) 10) (rpV xs (.slice (some ⟨2, 0, none⟩) j j) n i) (H s oc now) B Q
def FirstOK {σ : Type} (same : List Nat) (lc : List Value) (H : σ → List Value → Int → AH) (step : σ → Int → Vd × σ) (s0 : σ) : Prop :=
  ∀ (xs : List Value) (n i t : Int), ∃ S L f, S.cfg.OK Tryz.prog ∧ LoopsOK 1 Tryz.prog 47 L (oneLoop (codeOf Tryz.f16) 10) ∧ ∀ (B : List Value → AH → Prop) (Q : AExit → List Value → AH → Prop),
    ((At xs n i 0 t ∧ B (rpV xs (.slice (some ⟨2, 0, none⟩) 1 1) n (IntKind.i64.wrap (i + 1))) (H (step s0 t).2 (vdC (step s0 t).1) t)) ∨ (n ≤ i ∧ Q (.exit 0) [.slice none 0 0] (rpX lc))) →
    once 1 Tryz.prog S [] L f 47 [8, 9, 26, 27, 28] same [9] [1] (oneLoop (codeOf Tryz.f16) 10) (rpV xs (.slice none 0 0) n i) (mt0 lc 0) B Q
theorem vdC_len : ∀ O : List Vd, (O.flatMap vdC).length = O.length * 3
  | [] => rfl
  | t :: l => by
    rw [List.flatMap_cons, List.length_append, vdC_len l, List.length_cons]
    show 3 + _ = _
    omega
theorem p1_vdC {O : List Vd} : ∀ v ∈ O.flatMap vdC, p1 v = true := by
  intro v hv
  obtain ⟨t, _, h⟩ := List.mem_flatMap.1 hv
  simp only [vdC, List.mem_cons, List.not_mem_nil, or_false] at h
  rcases h with rfl | rfl | rfl <;> rfl
theorem nnV (O : List Vd) (t : TypeId) (fr : Nat × Nat) : NoNames (.cells ⟨O.flatMap vdC⟩ t fr) := fun v hv => p1_vdC v (by simpa using hv)
theorem apT_mk {O : List Vd} (hl : O.length ≤ 1000) {v : Vd} {B : List Value → Prop} (hB : B ((O ++ [v]).flatMap vdC)) : apT O.length (O.flatMap vdC) v B := by
  have hlen := vdC_len O
  have hsz : (Array.mk (O.flatMap vdC)).size = O.length * 3 := hlen
  have htk : List.take (O.length * 3) (List.drop 0 (Array.mk (O.flatMap vdC)).toList) = O.flatMap vdC := by
    rw [List.drop_zero]
    exact List.take_of_length_le (by show (O.flatMap vdC).length ≤ _; omega)
  have e : O.flatMap vdC ++ vdC v = (O ++ [v]).flatMap vdC := by simp
  unfold apT
  refine pick_f (ble_ss _) (need_mk ?_ (need_mk ?_ ?_))
  · rw [Bool.and_eq_true, Nat.ble_eq, Nat.ble_eq]; omega
  · rw [hsz, Nat.ble_eq_true_of_le (by omega)]; rfl
  · rw [htk, e]
    exact ⟨nnV _ _ _, hB⟩
theorem at_mk {L : List Int} {i : Nat} {now : Int} (hi : i < L.length) (h30 : ∀ x ∈ L, x ≤ 1000) (h0 : 0 ≤ L[i]) (hn : now ≤ L[i]) : At (L.map aV) (L.length : Int) (i : Int) now L[i] := by
  rw [aV_ak]
  have hi2 : i < (L.map toA).length := by rw [List.length_map]; exact hi
  obtain ⟨g1, g2⟩ := getA hi2
  have e : (L.map toA)[i] = toA L[i] := List.getElem_map _
  refine ⟨by omega, by omega, by simp; omega, by rw [g2]; exact g1, by rw [g2, e]; rfl, hn, h0, h30 _ (List.getElem_mem hi)⟩
theorem up_drop : ∀ {L : List Int} {t : Int} {i : Nat}, up_ t L → (h : i < L.length) → t ≤ L[i] ∧ up_ L[i] (L.drop (i + 1))
  | x :: L, t, 0, h, _ => h
  | x :: L, t, i + 1, h, hi => by
    obtain ⟨h1, h2⟩ := up_drop (L := L) (i := i) h.2 (by simpa using hi)
    have h1 : x ≤ L[i]'(by simpa using hi) := h1
    exact ⟨Int.le_trans h.1 h1, h2⟩
section
variable {σ : Type} {same : List Nat} {lc : List Value} {H : σ → List Value → Int → AH} {step : σ → Int → Vd × σ} {good : σ → Int → Prop} {s0 : σ}
theorem rl_loop (hR : RoundOK same lc H step good) (hg : ∀ s now t, good s now → now ≤ t → 0 ≤ t → t ≤ 1000 → good (step s t).2 t) {L : List Int} (h0 : up_ 0 L) (hl : L.length ≤ 100) (ht : ∀ x ∈ L, x ≤ 1000) (K : AExit → List Value → AH → Prop) :
    ∀ (r i : Nat) (s : σ) (O : List Vd) (now : Int), i + r = L.length → O.length = i → good s now → 0 ≤ now → up_ now (L.drop i) →
      K (.exit 0) [.slice (some ⟨1, 0, none⟩) L.length L.length] (rpXo lc ((O ++ runG step s (L.drop i)).flatMap vdC)) →
      (iterE 1 Tryz.prog 47 [8, 9, 26, 27, 28] same [9] [1] (oneLoop (codeOf Tryz.f16) 10)) (r + 1) (rpV (L.map aV) (.slice (some ⟨2, 0, none⟩) i i) (L.length : Int) (i : Int)) (H s (O.flatMap vdC) now) K := by
  intro r
  induction r with
  | zero =>
    intro i s O now h1 h2 h3 h4 h5 hK
    rw [List.drop_eq_nil_of_le (by omega), runG, List.append_nil] at hK
    have e : i = L.length := by omega
    obtain ⟨S, L2, f, k1, k2, k3⟩ := hR (L.map aV) (O.flatMap vdC) i s (L.length : Int) (i : Int) now 0 h3
    refine ⟨S, [], L2, f, k1, k2, k3 _ K (.inr ⟨by omega, nnV _ _ _, ?_⟩)⟩
    rw [e]; exact hK
  | succ r ih =>
    intro i s O now h1 h2 h3 h4 h5 hK
    have hi : i < L.length := by omega
    have hdr : L.drop i = L[i] :: L.drop (i + 1) := List.drop_eq_getElem_cons hi
    rw [hdr] at h5 hK
    have hp := (up_drop h0 hi).1
    have hA := at_mk hi ht hp h5.1
    obtain ⟨S, L2, f, k1, k2, k3⟩ := hR (L.map aV) (O.flatMap vdC) i s (L.length : Int) (i : Int) now L[i] h3
    refine ⟨S, [], L2, f, k1, k2, k3 _ K (.inl ⟨hA, ?_⟩)⟩
    have hap := apT_mk (O := O) (v := (step s L[i]).1) (by omega) (B := fun o2 => (iterE 1 Tryz.prog 47 [8, 9, 26, 27, 28] same [9] [1] (oneLoop (codeOf Tryz.f16) 10)) (r + 1) (rpV (L.map aV) (.slice (some ⟨2, 0, none⟩) (i + 1) (i + 1)) (L.length : Int) (IntKind.i64.wrap ((i : Int) + 1))) (H (step s L[i]).2 o2 L[i]) K) (by
      rw [wrap1 (by omega)]
      refine ih (i + 1) _ (O ++ [(step s L[i]).1]) _ (by omega) (by simp; omega) (hg s now _ h3 h5.1 hp hA.top) hp h5.2 ?_
      rw [List.append_assoc]
      exact hK)
    rw [h2] at hap
    exact hap
theorem rl_all (hF : FirstOK same lc H step s0) (hR : RoundOK same lc H step good) (hg : ∀ s now t, good s now → now ≤ t → 0 ≤ t → t ≤ 1000 → good (step s t).2 t) (hg0 : good s0 0) {L : List Int} (h0 : up_ 0 L) (hl : L.length ≤ 100) (ht : ∀ x ∈ L, x ≤ 1000) (K : AExit → List Value → AH → Prop)
    (hK : match L with | [] => K (.exit 0) [.slice none 0 0] (rpX lc) | _ => K (.exit 0) [.slice (some ⟨1, 0, none⟩) L.length L.length] (rpXo lc ((runG step s0 L).flatMap vdC))) :
    (iterE 1 Tryz.prog 47 [8, 9, 26, 27, 28] same [9] [1] (oneLoop (codeOf Tryz.f16) 10)) (L.length + 1) (rpV (L.map aV) (.slice none 0 0) (L.length : Int) 0) (mt0 lc 0) K := by
  match L, h0, hl, ht, hK with
  | [], _, _, _, hK =>
    obtain ⟨S, L2, f, k1, k2, k3⟩ := hF [] 0 0 0
    exact ⟨S, [], L2, f, k1, k2, k3 _ K (.inr ⟨Int.le_refl _, hK⟩)⟩
  | t :: l, h0, hl, ht, hK =>
    have hi : 0 < (t :: l).length := by simp
    have hA : At ((t :: l).map aV) ((t :: l).length : Int) ((0 : Nat) : Int) 0 t := at_mk hi ht h0.1 h0.1
    obtain ⟨S, L2, f, k1, k2, k3⟩ := hF ((t :: l).map aV) ((t :: l).length : Int) ((0 : Nat) : Int) t
    refine ⟨S, [], L2, f, k1, k2, k3 _ K (.inl ⟨hA, ?_⟩)⟩
    have hv : vdC (step s0 t).1 = [(step s0 t).1].flatMap vdC := by simp
    rw [wrap1 (by omega), hv]
    refine rl_loop hR hg h0 hl ht K l.length 1 (step s0 t).2 [(step s0 t).1] t (by simp; omega) rfl (hg _ _ _ hg0 h0.1 h0.1 (ht t (by simp))) h0.1 h0.2 ?_
    exact hK
end
end Go.Proofs.YteeomeididcdlaaGreatDoor
