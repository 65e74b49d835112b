/-
  Records as lines: what is wrong with records.
-/
import Derived.Test.YtfhhhfgbedddhaaGreatDoorRcB
namespace Go.Proofs.YtfhhhfgbedddhaaGreatDoor
open Go.Ev Go.RowKit RecLaw

theorem emp_tbl : ∀ n ∈ allN, ((bl n).toList == (ByteArray.mk #[]).toList) = (n == []) := by decide +kernel
theorem fd_ok {s : List UInt8} (hs : s ∈ allN) (hf : fldB s = true) {Q5 K : Prop} (hK : K) : fdT (bl s) Q5 K := by
  unfold fdT
  rw [emp_tbl s hs, okN_bl hs, ikB_bl]
  unfold fldB at hf
  cases h : (s == []) with
  | true => exact hK
  | false =>
    rw [h, Bool.false_or] at hf
    rw [hf]
    exact hK
theorem fd_bad {s : List UInt8} (hs : s ∈ allN) (hf : fldB s = false) {Q5 K : Prop} (hQ : Q5) : fdT (bl s) Q5 K := by
  unfold fdT
  rw [emp_tbl s hs, okN_bl hs, ikB_bl]
  unfold fldB at hf
  cases h : (s == []) with
  | true => rw [h] at hf; cases hf
  | false =>
    rw [h, Bool.false_or] at hf
    rw [hf]
    exact hQ
/-- What a record must be behind the one before it. -/
def okJ_ (r : Rc) (p : Option Int) : Prop := (100 ≤ r.st ∧ r.st ≤ 599 ∧ 0 ≤ r.fd ∧ r.fd ≤ 4) ∧ ∀ a, p = some a → a ≤ r.at_
def okI (r : Rc) (p : Option Int) : Prop := okE r ∧ ∀ a, p = some a → a ≤ r.at_
def okL (L : List Rc) : Prop := ∀ j, j < L.length → okI (L.getD j rc0) (pvA L j)
def Ln (L : List Rc) : Prop := L.length ≤ 5 ∧ ∀ r ∈ L, inN r
theorem get_mem {L : List Rc} {i : Nat} (h : i < L.length) : L.getD i rc0 ∈ L := by
  have : L.getD i rc0 = L[i] := by simp [List.getD, h]
  rw [this]; exact List.getElem_mem h
theorem or_ok {a : Int} {p : Option Int} (h : ∀ b, p = some b → b ≤ a) {Q7 K : Prop} (hK : K) : orT a Q7 K p := by
  cases p with
  | none => exact hK
  | some b => have := h b rfl; exact pick_f (decide_eq_false (by omega)) hK
theorem or_bad {a : Int} {p : Option Int} (h : ¬ ∀ b, p = some b → b ≤ a) {Q7 K : Prop} (hQ : Q7) : orT a Q7 K p := by
  cases p with
  | none => exact absurd (fun b q => by cases q) h
  | some b =>
    refine pick_t (decide_eq_true ?_) hQ
    refine Classical.byContradiction fun q => h fun c hc => ?_
    cases hc
    omega
theorem ckm_ok {a : Int} (h0 : 0 ≤ a) (h1 : a ≤ 345686399999) {Q K : Prop} (hK : K) : ckm a Q K := pick_t (decide_eq_true h0) (pick_f (by rw [decide_eq_true (by omega)]; rfl) hK)
theorem ckm_bad {a : Int} (h : ¬ (0 ≤ a ∧ a ≤ 345686399999)) {Q K : Prop} (hQ : Q) : ckm a Q K := by
  unfold ckm
  by_cases h0 : a ≥ 0
  · exact pick_t (decide_eq_true h0) (pick_t (by rw [decide_eq_false (by omega)]; rfl) hQ)
  · exact pick_f (decide_eq_false h0) hQ
theorem rfm_ok {a : Int} (h0 : 0 ≤ a) (h1 : a ≤ 345686399999) {Q K : Prop} (hK : K) : rfm a Q K := pick_t (decide_eq_true h0) (pick_f (by rw [decide_eq_true h1]; rfl) hK)
theorem rfm_bad {a : Int} (h : ¬ (0 ≤ a ∧ a ≤ 345686399999)) {Q K : Prop} (hQ : Q) : rfm a Q K := by
  unfold rfm
  by_cases h0 : 0 ≤ a
  · exact pick_t (decide_eq_true h0) (pick_t (by rw [decide_eq_false (by omega)]; rfl) hQ)
  · exact pick_f (decide_eq_false h0) hQ
theorem ckT_ok {r : Rc} {p : Option Int} (h : okJ_ r p) {Q : Int → Prop} {K : Prop} (hK : K) : ckT r p Q K := by
  obtain ⟨⟨h1, h2, h3, h4⟩, h5⟩ := h
  exact pick_f (decide_eq_false (by omega)) (pick_f (decide_eq_false (by omega)) (pick_f (decide_eq_false (by omega)) (pick_f (decide_eq_false (by omega)) (or_ok h5 hK))))
theorem ckT_bad {r : Rc} {p : Option Int} (h : ¬ okJ_ r p) : ∃ e : Int, e ≠ 0 ∧ ∀ (Q : Int → Prop) (K : Prop), Q e → ckT r p Q K := by
  by_cases h1 : r.st < 100
  · exact ⟨1, by decide, fun Q K q => pick_t (decide_eq_true h1) q⟩
  by_cases h2 : r.st > 599
  · exact ⟨1, by decide, fun Q K q => pick_f (decide_eq_false h1) (pick_t (decide_eq_true h2) q)⟩
  by_cases h3 : r.fd < 0
  · exact ⟨1, by decide, fun Q K q => pick_f (decide_eq_false h1) (pick_f (decide_eq_false h2) (pick_t (decide_eq_true h3) q))⟩
  by_cases h4 : r.fd > 4
  · exact ⟨1, by decide, fun Q K q => pick_f (decide_eq_false h1) (pick_f (decide_eq_false h2) (pick_f (decide_eq_false h3) (pick_t (decide_eq_true h4) q)))⟩
  refine ⟨7, by decide, fun Q K q => pick_f (decide_eq_false h1) (pick_f (decide_eq_false h2) (pick_f (decide_eq_false h3) (pick_f (decide_eq_false h4) (or_bad (fun h5 => h ⟨⟨by omega, by omega, by omega, by omega⟩, h5⟩) q))))⟩
theorem rfT_ok {r : Rc} {p : Option Int} (h : okJ_ r p) {Q : Int → Prop} {K : Prop} (hK : K) : rfT r p Q K := by
  obtain ⟨⟨h1, h2, h3, h4⟩, h5⟩ := h
  exact pick_t (decide_eq_true h1) (pick_f (by rw [decide_eq_true h2]; rfl) (pick_t (decide_eq_true h3) (pick_f (by rw [decide_eq_true h4]; rfl) (or_ok h5 hK))))
theorem rfT_bad {r : Rc} {p : Option Int} (h : ¬ okJ_ r p) : ∃ e : Int, e ≠ 0 ∧ ∀ (Q : Int → Prop) (K : Prop), Q e → rfT r p Q K := by
  by_cases h1 : 100 ≤ r.st
  · by_cases h2 : r.st ≤ 599
    · by_cases h3 : 0 ≤ r.fd
      · by_cases h4 : r.fd ≤ 4
        · exact ⟨7, by decide, fun Q K q => pick_t (decide_eq_true h1) (pick_f (by rw [decide_eq_true h2]; rfl) (pick_t (decide_eq_true h3) (pick_f (by rw [decide_eq_true h4]; rfl) (or_bad (fun h5 => h ⟨⟨h1, h2, h3, h4⟩, h5⟩) q))))⟩
        · exact ⟨1, by decide, fun Q K q => pick_t (decide_eq_true h1) (pick_f (by rw [decide_eq_true h2]; rfl) (pick_t (decide_eq_true h3) (pick_t (by rw [decide_eq_false h4]; rfl) q)))⟩
      · exact ⟨1, by decide, fun Q K q => pick_t (decide_eq_true h1) (pick_f (by rw [decide_eq_true h2]; rfl) (pick_f (decide_eq_false h3) q))⟩
    · exact ⟨1, by decide, fun Q K q => pick_t (decide_eq_true h1) (pick_t (by rw [decide_eq_false h2]; rfl) q)⟩
  · exact ⟨1, by decide, fun Q K q => pick_f (decide_eq_false h1) q⟩
theorem rcV_inj {r s : Rc} (h : rcV r = rcV s) : r = s := by
  obtain ⟨a0, a1, a2, a3, a4, a5, a6⟩ := r
  obtain ⟨b0, b1, b2, b3, b4, b5, b6⟩ := s
  simp only [rcV, rcC, strV, Value.agg.injEq, Array.mk.injEq, List.cons.injEq, Value.int.injEq, Value.string.injEq, true_and, and_true] at h
  obtain ⟨h0, h1, h2, h3, h4, h5, h6⟩ := h
  rw [h0, bl_inj h1, bl_inj h2, bl_inj h3, bl_inj h4, h5, h6]
theorem rcV_map : ∀ {L M : List Rc}, L.map rcV = M.map rcV → L = M
  | [], [], _ => rfl
  | [], _ :: _, h => by simp at h
  | _ :: _, [], h => by simp at h
  | a :: l, b :: m, h => by
    simp only [List.map_cons, List.cons.injEq] at h
    rw [rcV_inj h.1, rcV_map h.2]
open Classical in
noncomputable def okV (vs : List Value) : Bool := @decide (∃ L, Ln L ∧ vs = L.map rcV) (Classical.propDecidable _)
theorem okV_iff {vs : List Value} : okV vs = true ↔ ∃ L, Ln L ∧ vs = L.map rcV := by unfold okV; exact @decide_eq_true_iff _ (Classical.propDecidable _)
theorem okV_map {L : List Rc} (h : Ln L) : okV (L.map rcV) = true := okV_iff.2 ⟨L, h, rfl⟩
theorem ckfX (vs : List Value) (C : List Value → AH → Prop) (Q : Value → Prop) :
    tfn Tryz.prog SK1 [] (hook1 4 (hookLS 0 65 [0, 10, 11, 12] [] [2] (fun vals h K => C vals h ∧ K (.exit 0) [anyV] h0))) 600 [] Tryz.f16 [fz ⟨vs⟩] h0 (fun v _ => Q v) =
      bif decide (((Array.mk vs).size : Int) > 3000) then Q (.int .i64 2) else C [fz ⟨vs⟩, fz ⟨vs⟩, .int .i64 ((Array.mk vs).size : Int), .int .i64 0] h0 ∧ Q (.int .i64 0) := by kernel_rfl
theorem ckfR (vs : List Value) (e : Int) (C : List Value → AH → Prop) (Q : Value → Prop) :
    tfn Tryz.prog SK1 [] (hook1 4 (hookLS 0 65 [0, 10, 11, 12] [] [2] (fun vals h K => C vals h ∧ K .ret [.int .i64 e] h0))) 600 [] Tryz.f16 [fz ⟨vs⟩] h0 (fun v _ => Q v) =
      bif decide (((Array.mk vs).size : Int) > 3000) then Q (.int .i64 2) else C [fz ⟨vs⟩, fz ⟨vs⟩, .int .i64 ((Array.mk vs).size : Int), .int .i64 0] h0 ∧ Q (.int .i64 e) := by kernel_rfl
theorem ckE (B : List Value → AH → Prop) (Q : AExit → List Value → AH → Prop) : ∀ L : List Rc, L.length ≤ 5 → once 0 Tryz.prog SK1 [] noHooks 600 65 [0, 10, 11, 12] [] [2] [] (oneLoop (codeOf Tryz.f16) 4) (cv L (L.length : Int)) h0 B Q = Q (.exit 0) [anyV] h0
  | [], _ => by kernel_rfl
  | [a], _ => by kernel_rfl
  | [a, b], _ => by kernel_rfl
  | [a, b, c], _ => by kernel_rfl
  | [a, b, c, d], _ => by kernel_rfl
  | [a, b, c, d, e], _ => by kernel_rfl
  | _ :: _ :: _ :: _ :: _ :: _ :: _, h => absurd h (by simp)
theorem ck_it (n : Nat) {vals : List Value} {h : AH} {K : AExit → List Value → AH → Prop} (hx : once 0 Tryz.prog SK1 [] noHooks 600 65 [0, 3, 4, 10, 11, 12, 29, 30, 31] [] [2, 0, 3, 4, 10, 11, 12] [] (oneLoop (oneLoop (codeOf Tryz.f16) 4) 9) vals h (fun v g => iter 0 Tryz.prog SK1 [] noHooks 600 65 [0, 3, 4, 10, 11, 12, 29, 30, 31] [] [2, 0, 3, 4, 10, 11, 12] [] (oneLoop (oneLoop (codeOf Tryz.f16) 4) 9) n v g K) K) : iter 0 Tryz.prog SK1 [] noHooks 600 65 [0, 3, 4, 10, 11, 12, 29, 30, 31] [] [2, 0, 3, 4, 10, 11, 12] [] (oneLoop (oneLoop (codeOf Tryz.f16) 4) 9) (n + 1) vals h K := hx
set_option maxRecDepth 20000 in
theorem ck_inX {vs : List Value} {n i : Int} {r : Rc} (hn : inN r) (hf : flds r = true) {K : AExit → List Value → AH → Prop} (hK : K (.exit 2) (anyV :: ix vs n i) (xH r)) : ∃ R, iter 0 Tryz.prog SK1 [] noHooks 600 65 [0, 3, 4, 10, 11, 12, 29, 30, 31] [] [2, 0, 3, 4, 10, 11, 12] [] (oneLoop (oneLoop (codeOf Tryz.f16) 4) 9) R (iv vs n i 0) (iH r) K := by
  simp only [flds, Bool.and_eq_true] at hf
  obtain ⟨⟨⟨f1, f2⟩, f3⟩, f4⟩ := hf
  refine ⟨5, ?_⟩
  refine ck_it 4 ((cki0 _ _ _ _ _ K).mpr (fd_ok hn.1 f1 ?_))
  show iter 0 Tryz.prog SK1 [] noHooks 600 65 [0, 3, 4, 10, 11, 12, 29, 30, 31] [] [2, 0, 3, 4, 10, 11, 12] [] (oneLoop (oneLoop (codeOf Tryz.f16) 4) 9) 4 (iv vs n i 1) (iH r) K
  refine ck_it 3 ((cki1 _ _ _ _ _ K).mpr (fd_ok hn.2.1 f2 ?_))
  show iter 0 Tryz.prog SK1 [] noHooks 600 65 [0, 3, 4, 10, 11, 12, 29, 30, 31] [] [2, 0, 3, 4, 10, 11, 12] [] (oneLoop (oneLoop (codeOf Tryz.f16) 4) 9) 3 (iv vs n i 2) (iH r) K
  refine ck_it 2 ((cki2 _ _ _ _ _ K).mpr (fd_ok hn.2.2.1 f3 ?_))
  show iter 0 Tryz.prog SK1 [] noHooks 600 65 [0, 3, 4, 10, 11, 12, 29, 30, 31] [] [2, 0, 3, 4, 10, 11, 12] [] (oneLoop (oneLoop (codeOf Tryz.f16) 4) 9) 2 (iv vs n i 3) (iH r) K
  refine ck_it 1 ((cki3 _ _ _ _ _ K).mpr (fd_ok hn.2.2.2 f4 ?_))
  show iter 0 Tryz.prog SK1 [] noHooks 600 65 [0, 3, 4, 10, 11, 12, 29, 30, 31] [] [2, 0, 3, 4, 10, 11, 12] [] (oneLoop (oneLoop (codeOf Tryz.f16) 4) 9) 1 (iv vs n i 4) (iH r) K
  exact ck_it 0 ((cki4 _ _ _ _ _ K).mpr hK)
set_option maxRecDepth 20000 in
theorem ck_inR {vs : List Value} {n i : Int} {r : Rc} (hn : inN r) (hf : flds r = false) {K : AExit → List Value → AH → Prop} (hK : K .ret (.int .i64 5 :: ix vs n i) (xH r)) : ∃ R, iter 0 Tryz.prog SK1 [] noHooks 600 65 [0, 3, 4, 10, 11, 12, 29, 30, 31] [] [2, 0, 3, 4, 10, 11, 12] [] (oneLoop (oneLoop (codeOf Tryz.f16) 4) 9) R (iv vs n i 0) (iH r) K := by
  refine ⟨5, ?_⟩
  cases f1 : fldB r.rt with
  | false =>
    refine ck_it 4 ((cki0 _ _ _ _ _ K).mpr (fd_bad hn.1 f1 ?_))
    exact hK
  | true =>
    cases f2 : fldB r.cl with
    | false =>
      refine ck_it 4 ((cki0 _ _ _ _ _ K).mpr (fd_ok hn.1 f1 ?_))
      show iter 0 Tryz.prog SK1 [] noHooks 600 65 [0, 3, 4, 10, 11, 12, 29, 30, 31] [] [2, 0, 3, 4, 10, 11, 12] [] (oneLoop (oneLoop (codeOf Tryz.f16) 4) 9) 4 (iv vs n i 1) (iH r) K
      refine ck_it 3 ((cki1 _ _ _ _ _ K).mpr (fd_bad hn.2.1 f2 ?_))
      exact hK
    | true =>
      cases f3 : fldB r.ac with
      | false =>
        refine ck_it 4 ((cki0 _ _ _ _ _ K).mpr (fd_ok hn.1 f1 ?_))
        show iter 0 Tryz.prog SK1 [] noHooks 600 65 [0, 3, 4, 10, 11, 12, 29, 30, 31] [] [2, 0, 3, 4, 10, 11, 12] [] (oneLoop (oneLoop (codeOf Tryz.f16) 4) 9) 4 (iv vs n i 1) (iH r) K
        refine ck_it 3 ((cki1 _ _ _ _ _ K).mpr (fd_ok hn.2.1 f2 ?_))
        show iter 0 Tryz.prog SK1 [] noHooks 600 65 [0, 3, 4, 10, 11, 12, 29, 30, 31] [] [2, 0, 3, 4, 10, 11, 12] [] (oneLoop (oneLoop (codeOf Tryz.f16) 4) 9) 3 (iv vs n i 2) (iH r) K
        refine ck_it 2 ((cki2 _ _ _ _ _ K).mpr (fd_bad hn.2.2.1 f3 ?_))
        exact hK
      | true =>
        cases f4 : fldB r.ins with
        | false =>
          refine ck_it 4 ((cki0 _ _ _ _ _ K).mpr (fd_ok hn.1 f1 ?_))
          show iter 0 Tryz.prog SK1 [] noHooks 600 65 [0, 3, 4, 10, 11, 12, 29, 30, 31] [] [2, 0, 3, 4, 10, 11, 12] [] (oneLoop (oneLoop (codeOf Tryz.f16) 4) 9) 4 (iv vs n i 1) (iH r) K
          refine ck_it 3 ((cki1 _ _ _ _ _ K).mpr (fd_ok hn.2.1 f2 ?_))
          show iter 0 Tryz.prog SK1 [] noHooks 600 65 [0, 3, 4, 10, 11, 12, 29, 30, 31] [] [2, 0, 3, 4, 10, 11, 12] [] (oneLoop (oneLoop (codeOf Tryz.f16) 4) 9) 3 (iv vs n i 2) (iH r) K
          refine ck_it 2 ((cki2 _ _ _ _ _ K).mpr (fd_ok hn.2.2.1 f3 ?_))
          show iter 0 Tryz.prog SK1 [] noHooks 600 65 [0, 3, 4, 10, 11, 12, 29, 30, 31] [] [2, 0, 3, 4, 10, 11, 12] [] (oneLoop (oneLoop (codeOf Tryz.f16) 4) 9) 2 (iv vs n i 3) (iH r) K
          refine ck_it 1 ((cki3 _ _ _ _ _ K).mpr (fd_bad hn.2.2.2 f4 ?_))
          exact hK
        | true =>
          simp only [flds, f1, f2, f3, f4, Bool.and_self] at hf
          cases hf
theorem one9ck : (loopAt (oneLoop (codeOf Tryz.f16) 4) 9).length = 1 := by kernel_rfl
theorem one4ck : (loopAt (codeOf Tryz.f16) 4).length = 1 := by kernel_rfl
theorem someck : Tryz.f16.body.isSome = true := by kernel_rfl
theorem ck_itE (n : Nat) {vals : List Value} {h : AH} {K : AExit → List Value → AH → Prop} (hx : ∃ S G L f, S.cfg.OK Tryz.prog ∧ LoopsOK 0 Tryz.prog 65 L (oneLoop (codeOf Tryz.f16) 4) ∧ once 0 Tryz.prog S G L f 65 [0, 10, 11, 12] [] [2] [] (oneLoop (codeOf Tryz.f16) 4) vals h (fun v g => iterE 0 Tryz.prog 65 [0, 10, 11, 12] [] [2] [] (oneLoop (codeOf Tryz.f16) 4) n v g K) K) : iterE 0 Tryz.prog 65 [0, 10, 11, 12] [] [2] [] (oneLoop (codeOf Tryz.f16) 4) (n + 1) vals h K := hx
theorem ck_ok {L : List Rc} (hL : Ln L) (K : AExit → List Value → AH → Prop) (hK : K (.exit 0) [anyV] h0) : ∀ (r i : Nat), i + r = L.length → (∀ j, i ≤ j → j < L.length → okI (L.getD j rc0) (pvA L j)) → iterE 0 Tryz.prog 65 [0, 10, 11, 12] [] [2] [] (oneLoop (codeOf Tryz.f16) 4) (r + 1) (cv L (i : Int)) h0 K
  | 0, i, h1, _ => by
    have : i = L.length := by omega
    subst this
    exact ck_itE 0 ⟨_, _, _, _, SK1_ok, loops_none _ _ _ _, (ckE _ K L hL.1).mpr hK⟩
  | r + 1, i, h1, h2 => by
    have hi : i < L.length := by omega
    have ih := ck_ok hL K hK r (i + 1) (by omega) fun j hj => h2 j (by omega)
    obtain ⟨⟨a1, a2, a3, a4, a5, a6, a7⟩, a8⟩ := h2 i (Nat.le_refl _) hi
    refine ck_itE (r + 1) ⟨_, _, _, _, SK1_ok, loops_one one9ck (hook_ok (G := []) (L := noHooks) (f := 600) (sameX := []) SK1_ok mixed (by decide) (loops_none _ _ _ _) ?_), (ckX (fun vals h => vals = iv (L.map rcV) (L.length : Int) (i : Int) 0 ∧ h = iH (L.getD i rc0)) _ K L i hL.1 hi).mpr (ckm_ok a1 a2 ⟨⟨rfl, rfl⟩, ckT_ok ⟨⟨a4, a5, a6, a7⟩, a8⟩ ih⟩)⟩
    rintro vals h K ⟨⟨rfl, rfl⟩, hK⟩
    exact ck_inX (hL.2 _ (get_mem hi)) a3 hK
theorem ck_bad {L : List Rc} (hL : Ln L) : ∀ (r i : Nat), i + r = L.length → (∃ j, i ≤ j ∧ j < L.length ∧ ¬ okI (L.getD j rc0) (pvA L j)) → ∃ e : Int, e ≠ 0 ∧ ∀ K : AExit → List Value → AH → Prop, K .ret [.int .i64 e] h0 → iterE 0 Tryz.prog 65 [0, 10, 11, 12] [] [2] [] (oneLoop (codeOf Tryz.f16) 4) (r + 1) (cv L (i : Int)) h0 K
  | 0, i, h1, h2 => by obtain ⟨j, q1, q2, _⟩ := h2; omega
  | r + 1, i, h1, h2 => by
    have hi : i < L.length := by omega
    by_cases b1 : 0 ≤ (L.getD i rc0).at_ ∧ (L.getD i rc0).at_ ≤ 345686399999
    · have hin := hL.2 _ (get_mem hi)
      cases b2 : flds (L.getD i rc0) with
      | false =>
        refine ⟨5, by decide, fun K hK => ck_itE (r + 1) ⟨_, _, _, _, SK1_ok, loops_one one9ck (hook_ok (G := []) (L := noHooks) (f := 600) (sameX := []) SK1_ok mixed (by decide) (loops_none _ _ _ _) ?_), (ckR (fun vals h => vals = iv (L.map rcV) (L.length : Int) (i : Int) 0 ∧ h = iH (L.getD i rc0)) _ K L i hL.1 hi).mpr (ckm_ok b1.1 b1.2 ⟨⟨rfl, rfl⟩, hK⟩)⟩⟩
        rintro vals h K ⟨⟨rfl, rfl⟩, hK⟩
        exact ck_inR hin b2 hK
      | true =>
        have hsp : LSpec 0 Tryz.prog 65 (oneLoop (oneLoop (codeOf Tryz.f16) 4) 9) (hookLS 0 65 [0, 3, 4, 10, 11, 12, 29, 30, 31] [] [2, 0, 3, 4, 10, 11, 12] (fun vals h K => (vals = iv (L.map rcV) (L.length : Int) (i : Int) 0 ∧ h = iH (L.getD i rc0)) ∧ K (.exit 2) (anyV :: ix (L.map rcV) (L.length : Int) (i : Int)) (xH (L.getD i rc0)))) := by
          refine hook_ok (G := []) (L := noHooks) (f := 600) (sameX := []) SK1_ok mixed (by decide) (loops_none _ _ _ _) ?_
          rintro vals h K ⟨⟨rfl, rfl⟩, hK⟩
          exact ck_inX hin b2 hK
        by_cases b3 : okJ_ (L.getD i rc0) (pvA L i)
        · obtain ⟨e, e1, e2⟩ := ck_bad hL r (i + 1) (by omega) (by
            obtain ⟨j, q1, q2, q3⟩ := h2
            rcases Nat.eq_or_lt_of_le q1 with q | q
            · subst q
              exact absurd ⟨⟨b1.1, b1.2, b2, b3.1⟩, b3.2⟩ q3
            · exact ⟨j, q, q2, q3⟩)
          exact ⟨e, e1, fun K hK => ck_itE (r + 1) ⟨_, _, _, _, SK1_ok, loops_one one9ck hsp, (ckX _ _ K L i hL.1 hi).mpr (ckm_ok b1.1 b1.2 ⟨⟨rfl, rfl⟩, ckT_ok b3 (e2 K hK)⟩)⟩⟩
        · obtain ⟨e, e1, e2⟩ := ckT_bad b3
          exact ⟨e, e1, fun K hK => ck_itE (r + 1) ⟨_, _, _, _, SK1_ok, loops_one one9ck hsp, (ckX _ _ K L i hL.1 hi).mpr (ckm_ok b1.1 b1.2 ⟨⟨rfl, rfl⟩, e2 _ _ hK⟩)⟩⟩
    · exact ⟨1, by decide, fun K hK => ck_itE (r + 1) ⟨_, _, _, _, SK1_ok, loops_one one9ck (hook_ok (G := []) (L := noHooks) (f := 600) (sameX := []) SK1_ok mixed (by decide) (loops_none _ _ _ _) (fun vals h K q => q.1.elim)), (ckX (fun _ _ => False) _ K L i hL.1 hi).mpr (ckm_bad b1 hK)⟩⟩
theorem ck_fn {L : List Rc} (hL : Ln L) : ∃ e : Int, (e = 0 ↔ okL L) ∧ FnOK 0 Tryz.prog 16 ⟨[fz ⟨L.map rcV⟩]⟩ h0 (fun v _ => v = .int .i64 e) := by
  have hz : ((Array.mk (L.map rcV)).size : Int) = (L.length : Int) := by simp
  have h5 := hL.1
  by_cases h : okL L
  · refine ⟨0, ⟨fun _ => h, fun _ => rfl⟩, ?_⟩
    have hsp : LSpec 0 Tryz.prog 65 (oneLoop (codeOf Tryz.f16) 4) (hookLS 0 65 [0, 10, 11, 12] [] [2] (fun vals h K => (vals = cv L 0 ∧ h = h0) ∧ K (.exit 0) [anyV] h0)) := by
      refine hookE_ok (sameX := []) mixed (by decide) ?_
      rintro vals h K ⟨⟨rfl, rfl⟩, hK⟩
      exact ⟨_, ck_ok hL K hK L.length 0 (by omega) fun j _ hj => h j hj⟩
    refine FnOK.ttree SK1_ok mixed Tryz.func16 someck (loops_one one4ck hsp) (ckfX (L.map rcV) _ (fun v => v = .int .i64 0)) ?_
    exact pick_f (decide_eq_false (by omega)) ⟨⟨by rw [hz]; rfl, rfl⟩, rfl⟩
  · have hx : ∃ j, 0 ≤ j ∧ j < L.length ∧ ¬ okI (L.getD j rc0) (pvA L j) := by
      refine Classical.byContradiction fun q => h fun j hj => Classical.byContradiction fun q2 => q ⟨j, Nat.zero_le _, hj, q2⟩
    obtain ⟨e, e1, e2⟩ := ck_bad hL L.length 0 (by omega) hx
    refine ⟨e, ⟨fun q => absurd q e1, fun q => absurd q h⟩, ?_⟩
    have hsp : LSpec 0 Tryz.prog 65 (oneLoop (codeOf Tryz.f16) 4) (hookLS 0 65 [0, 10, 11, 12] [] [2] (fun vals h K => (vals = cv L 0 ∧ h = h0) ∧ K .ret [.int .i64 e] h0)) := by
      refine hookE_ok (sameX := []) mixed (by decide) ?_
      rintro vals h K ⟨⟨rfl, rfl⟩, hK⟩
      exact ⟨_, e2 K hK⟩
    refine FnOK.ttree SK1_ok mixed Tryz.func16 someck (loops_one one4ck hsp) (ckfR (L.map rcV) e _ (fun v => v = .int .i64 e)) ?_
    exact pick_f (decide_eq_false (by omega)) ⟨⟨by rw [hz]; rfl, rfl⟩, rfl⟩
/-- What is wrong with records. -/
def ckIs (vs : List Value) (e : Int) : Prop := FnOK 0 Tryz.prog 16 ⟨[fz ⟨vs⟩]⟩ h0 (fun v _ => v = .int .i64 e) ∧ ∀ L, Ln L → vs = L.map rcV → (e = 0 ↔ okL L)
theorem ck_ex {vs : List Value} (h : okV vs = true) : ∃ e, ckIs vs e := by
  obtain ⟨L, hL, rfl⟩ := okV_iff.1 h
  obtain ⟨e, e1, e2⟩ := ck_fn hL
  exact ⟨e, e2, fun M _ q => by rw [← rcV_map q]; exact e1⟩
open Classical in
noncomputable def ckC (vs : List Value) : Int := if h : ∃ e, ckIs vs e then h.choose else 0
theorem ckC_ok {vs : List Value} (h : okV vs = true) : ckIs vs (ckC vs) := by
  have h := ck_ex h
  unfold ckC
  rw [dif_pos h]
  exact h.choose_spec
noncomputable def spCk (f : FuncId) (args : Array Value) (h : AH) : Option (Bool × Value × AH) :=
  cond (Nat.beq f 16) (match args with
    | ⟨[.func (.yield 0) ⟨vs⟩ ⟨[]⟩]⟩ => some (okV vs, .int .i64 (ckC vs), h)
    | _ => none) none
theorem spCk_ok : SpOK spCk := by
  intro f args h v h' hs
  unfold spCk at hs
  obtain ⟨hf, hs2⟩ := cond_some hs
  clear hs
  have := Nat.eq_of_beq_eq_true hf
  subst this
  split at hs2
  · injection hs2 with hs
    injection hs with hb hs
    injection hs with hv hh
    subst hv hh
    rename_i vs
    exact ⟨FnOK.pure (ckC_ok hb).1 rfl rfl h, Nat.le_refl _⟩
  · cases hs2
theorem rffX (vs : List Value) (C : List Value → AH → Prop) (Q : Value → Prop) :
    tfn Tryz.prog SQ1 [] (hook1 4 (hookLS 0 67 [0, 10, 11, 12] [] [2] (fun vals h K => C vals h ∧ K (.exit 0) [anyV] h0))) 600 [] Tryz.f10 [fz ⟨vs⟩] h0 (fun v _ => Q v) =
      bif decide (((Array.mk vs).size : Int) > 3000) then Q (.int .i64 2) else C [fz ⟨vs⟩, fz ⟨vs⟩, .int .i64 ((Array.mk vs).size : Int), .int .i64 0] h0 ∧ Q (.int .i64 0) := by kernel_rfl
theorem rffR (vs : List Value) (e : Int) (C : List Value → AH → Prop) (Q : Value → Prop) :
    tfn Tryz.prog SQ1 [] (hook1 4 (hookLS 0 67 [0, 10, 11, 12] [] [2] (fun vals h K => C vals h ∧ K .ret [.int .i64 e] h0))) 600 [] Tryz.f10 [fz ⟨vs⟩] h0 (fun v _ => Q v) =
      bif decide (((Array.mk vs).size : Int) > 3000) then Q (.int .i64 2) else C [fz ⟨vs⟩, fz ⟨vs⟩, .int .i64 ((Array.mk vs).size : Int), .int .i64 0] h0 ∧ Q (.int .i64 e) := by kernel_rfl
theorem rfE (B : List Value → AH → Prop) (Q : AExit → List Value → AH → Prop) : ∀ L : List Rc, L.length ≤ 5 → once 0 Tryz.prog SQ1 [] noHooks 600 67 [0, 10, 11, 12] [] [2] [] (oneLoop (codeOf Tryz.f10) 4) (cv L (L.length : Int)) h0 B Q = Q (.exit 0) [anyV] h0
  | [], _ => by kernel_rfl
  | [a], _ => by kernel_rfl
  | [a, b], _ => by kernel_rfl
  | [a, b, c], _ => by kernel_rfl
  | [a, b, c, d], _ => by kernel_rfl
  | [a, b, c, d, e], _ => by kernel_rfl
  | _ :: _ :: _ :: _ :: _ :: _ :: _, h => absurd h (by simp)
theorem rf_it (n : Nat) {vals : List Value} {h : AH} {K : AExit → List Value → AH → Prop} (hx : once 0 Tryz.prog SQ1 [] noHooks 600 67 [0, 3, 4, 10, 11, 12, 29, 30, 31] [] [2, 0, 3, 4, 10, 11, 12] [] (oneLoop (oneLoop (codeOf Tryz.f10) 4) 9) vals h (fun v g => iter 0 Tryz.prog SQ1 [] noHooks 600 67 [0, 3, 4, 10, 11, 12, 29, 30, 31] [] [2, 0, 3, 4, 10, 11, 12] [] (oneLoop (oneLoop (codeOf Tryz.f10) 4) 9) n v g K) K) : iter 0 Tryz.prog SQ1 [] noHooks 600 67 [0, 3, 4, 10, 11, 12, 29, 30, 31] [] [2, 0, 3, 4, 10, 11, 12] [] (oneLoop (oneLoop (codeOf Tryz.f10) 4) 9) (n + 1) vals h K := hx
set_option maxRecDepth 20000 in
theorem rf_inX {vs : List Value} {n i : Int} {r : Rc} (hn : inN r) (hf : flds r = true) {K : AExit → List Value → AH → Prop} (hK : K (.exit 2) (anyV :: ix vs n i) (xH r)) : ∃ R, iter 0 Tryz.prog SQ1 [] noHooks 600 67 [0, 3, 4, 10, 11, 12, 29, 30, 31] [] [2, 0, 3, 4, 10, 11, 12] [] (oneLoop (oneLoop (codeOf Tryz.f10) 4) 9) R (iv vs n i 0) (iH r) K := by
  simp only [flds, Bool.and_eq_true] at hf
  obtain ⟨⟨⟨f1, f2⟩, f3⟩, f4⟩ := hf
  refine ⟨5, ?_⟩
  refine rf_it 4 ((rfi0 _ _ _ _ _ K).mpr (fd_ok hn.1 f1 ?_))
  show iter 0 Tryz.prog SQ1 [] noHooks 600 67 [0, 3, 4, 10, 11, 12, 29, 30, 31] [] [2, 0, 3, 4, 10, 11, 12] [] (oneLoop (oneLoop (codeOf Tryz.f10) 4) 9) 4 (iv vs n i 1) (iH r) K
  refine rf_it 3 ((rfi1 _ _ _ _ _ K).mpr (fd_ok hn.2.1 f2 ?_))
  show iter 0 Tryz.prog SQ1 [] noHooks 600 67 [0, 3, 4, 10, 11, 12, 29, 30, 31] [] [2, 0, 3, 4, 10, 11, 12] [] (oneLoop (oneLoop (codeOf Tryz.f10) 4) 9) 3 (iv vs n i 2) (iH r) K
  refine rf_it 2 ((rfi2 _ _ _ _ _ K).mpr (fd_ok hn.2.2.1 f3 ?_))
  show iter 0 Tryz.prog SQ1 [] noHooks 600 67 [0, 3, 4, 10, 11, 12, 29, 30, 31] [] [2, 0, 3, 4, 10, 11, 12] [] (oneLoop (oneLoop (codeOf Tryz.f10) 4) 9) 2 (iv vs n i 3) (iH r) K
  refine rf_it 1 ((rfi3 _ _ _ _ _ K).mpr (fd_ok hn.2.2.2 f4 ?_))
  show iter 0 Tryz.prog SQ1 [] noHooks 600 67 [0, 3, 4, 10, 11, 12, 29, 30, 31] [] [2, 0, 3, 4, 10, 11, 12] [] (oneLoop (oneLoop (codeOf Tryz.f10) 4) 9) 1 (iv vs n i 4) (iH r) K
  exact rf_it 0 ((rfi4 _ _ _ _ _ K).mpr hK)
set_option maxRecDepth 20000 in
theorem rf_inR {vs : List Value} {n i : Int} {r : Rc} (hn : inN r) (hf : flds r = false) {K : AExit → List Value → AH → Prop} (hK : K .ret (.int .i64 5 :: ix vs n i) (xH r)) : ∃ R, iter 0 Tryz.prog SQ1 [] noHooks 600 67 [0, 3, 4, 10, 11, 12, 29, 30, 31] [] [2, 0, 3, 4, 10, 11, 12] [] (oneLoop (oneLoop (codeOf Tryz.f10) 4) 9) R (iv vs n i 0) (iH r) K := by
  refine ⟨5, ?_⟩
  cases f1 : fldB r.rt with
  | false =>
    refine rf_it 4 ((rfi0 _ _ _ _ _ K).mpr (fd_bad hn.1 f1 ?_))
    exact hK
  | true =>
    cases f2 : fldB r.cl with
    | false =>
      refine rf_it 4 ((rfi0 _ _ _ _ _ K).mpr (fd_ok hn.1 f1 ?_))
      show iter 0 Tryz.prog SQ1 [] noHooks 600 67 [0, 3, 4, 10, 11, 12, 29, 30, 31] [] [2, 0, 3, 4, 10, 11, 12] [] (oneLoop (oneLoop (codeOf Tryz.f10) 4) 9) 4 (iv vs n i 1) (iH r) K
      refine rf_it 3 ((rfi1 _ _ _ _ _ K).mpr (fd_bad hn.2.1 f2 ?_))
      exact hK
    | true =>
      cases f3 : fldB r.ac with
      | false =>
        refine rf_it 4 ((rfi0 _ _ _ _ _ K).mpr (fd_ok hn.1 f1 ?_))
        show iter 0 Tryz.prog SQ1 [] noHooks 600 67 [0, 3, 4, 10, 11, 12, 29, 30, 31] [] [2, 0, 3, 4, 10, 11, 12] [] (oneLoop (oneLoop (codeOf Tryz.f10) 4) 9) 4 (iv vs n i 1) (iH r) K
        refine rf_it 3 ((rfi1 _ _ _ _ _ K).mpr (fd_ok hn.2.1 f2 ?_))
        show iter 0 Tryz.prog SQ1 [] noHooks 600 67 [0, 3, 4, 10, 11, 12, 29, 30, 31] [] [2, 0, 3, 4, 10, 11, 12] [] (oneLoop (oneLoop (codeOf Tryz.f10) 4) 9) 3 (iv vs n i 2) (iH r) K
        refine rf_it 2 ((rfi2 _ _ _ _ _ K).mpr (fd_bad hn.2.2.1 f3 ?_))
        exact hK
      | true =>
        cases f4 : fldB r.ins with
        | false =>
          refine rf_it 4 ((rfi0 _ _ _ _ _ K).mpr (fd_ok hn.1 f1 ?_))
          show iter 0 Tryz.prog SQ1 [] noHooks 600 67 [0, 3, 4, 10, 11, 12, 29, 30, 31] [] [2, 0, 3, 4, 10, 11, 12] [] (oneLoop (oneLoop (codeOf Tryz.f10) 4) 9) 4 (iv vs n i 1) (iH r) K
          refine rf_it 3 ((rfi1 _ _ _ _ _ K).mpr (fd_ok hn.2.1 f2 ?_))
          show iter 0 Tryz.prog SQ1 [] noHooks 600 67 [0, 3, 4, 10, 11, 12, 29, 30, 31] [] [2, 0, 3, 4, 10, 11, 12] [] (oneLoop (oneLoop (codeOf Tryz.f10) 4) 9) 3 (iv vs n i 2) (iH r) K
          refine rf_it 2 ((rfi2 _ _ _ _ _ K).mpr (fd_ok hn.2.2.1 f3 ?_))
          show iter 0 Tryz.prog SQ1 [] noHooks 600 67 [0, 3, 4, 10, 11, 12, 29, 30, 31] [] [2, 0, 3, 4, 10, 11, 12] [] (oneLoop (oneLoop (codeOf Tryz.f10) 4) 9) 2 (iv vs n i 3) (iH r) K
          refine rf_it 1 ((rfi3 _ _ _ _ _ K).mpr (fd_bad hn.2.2.2 f4 ?_))
          exact hK
        | true =>
          simp only [flds, f1, f2, f3, f4, Bool.and_self] at hf
          cases hf
theorem one9rf : (loopAt (oneLoop (codeOf Tryz.f10) 4) 9).length = 1 := by kernel_rfl
theorem one4rf : (loopAt (codeOf Tryz.f10) 4).length = 1 := by kernel_rfl
theorem somerf : Tryz.f10.body.isSome = true := by kernel_rfl
theorem rf_itE (n : Nat) {vals : List Value} {h : AH} {K : AExit → List Value → AH → Prop} (hx : ∃ S G L f, S.cfg.OK Tryz.prog ∧ LoopsOK 0 Tryz.prog 67 L (oneLoop (codeOf Tryz.f10) 4) ∧ once 0 Tryz.prog S G L f 67 [0, 10, 11, 12] [] [2] [] (oneLoop (codeOf Tryz.f10) 4) vals h (fun v g => iterE 0 Tryz.prog 67 [0, 10, 11, 12] [] [2] [] (oneLoop (codeOf Tryz.f10) 4) n v g K) K) : iterE 0 Tryz.prog 67 [0, 10, 11, 12] [] [2] [] (oneLoop (codeOf Tryz.f10) 4) (n + 1) vals h K := hx
theorem rf_ok {L : List Rc} (hL : Ln L) (K : AExit → List Value → AH → Prop) (hK : K (.exit 0) [anyV] h0) : ∀ (r i : Nat), i + r = L.length → (∀ j, i ≤ j → j < L.length → okI (L.getD j rc0) (pvA L j)) → iterE 0 Tryz.prog 67 [0, 10, 11, 12] [] [2] [] (oneLoop (codeOf Tryz.f10) 4) (r + 1) (cv L (i : Int)) h0 K
  | 0, i, h1, _ => by
    have : i = L.length := by omega
    subst this
    exact rf_itE 0 ⟨_, _, _, _, SQ1_ok, loops_none _ _ _ _, (rfE _ K L hL.1).mpr hK⟩
  | r + 1, i, h1, h2 => by
    have hi : i < L.length := by omega
    have ih := rf_ok hL K hK r (i + 1) (by omega) fun j hj => h2 j (by omega)
    obtain ⟨⟨a1, a2, a3, a4, a5, a6, a7⟩, a8⟩ := h2 i (Nat.le_refl _) hi
    refine rf_itE (r + 1) ⟨_, _, _, _, SQ1_ok, loops_one one9rf (hook_ok (G := []) (L := noHooks) (f := 600) (sameX := []) SQ1_ok mixed (by decide) (loops_none _ _ _ _) ?_), (rfX (fun vals h => vals = iv (L.map rcV) (L.length : Int) (i : Int) 0 ∧ h = iH (L.getD i rc0)) _ K L i hL.1 hi).mpr (rfm_ok a1 a2 ⟨⟨rfl, rfl⟩, rfT_ok ⟨⟨a4, a5, a6, a7⟩, a8⟩ ih⟩)⟩
    rintro vals h K ⟨⟨rfl, rfl⟩, hK⟩
    exact rf_inX (hL.2 _ (get_mem hi)) a3 hK
theorem rf_bad {L : List Rc} (hL : Ln L) : ∀ (r i : Nat), i + r = L.length → (∃ j, i ≤ j ∧ j < L.length ∧ ¬ okI (L.getD j rc0) (pvA L j)) → ∃ e : Int, e ≠ 0 ∧ ∀ K : AExit → List Value → AH → Prop, K .ret [.int .i64 e] h0 → iterE 0 Tryz.prog 67 [0, 10, 11, 12] [] [2] [] (oneLoop (codeOf Tryz.f10) 4) (r + 1) (cv L (i : Int)) h0 K
  | 0, i, h1, h2 => by obtain ⟨j, q1, q2, _⟩ := h2; omega
  | r + 1, i, h1, h2 => by
    have hi : i < L.length := by omega
    by_cases b1 : 0 ≤ (L.getD i rc0).at_ ∧ (L.getD i rc0).at_ ≤ 345686399999
    · have hin := hL.2 _ (get_mem hi)
      cases b2 : flds (L.getD i rc0) with
      | false =>
        refine ⟨5, by decide, fun K hK => rf_itE (r + 1) ⟨_, _, _, _, SQ1_ok, loops_one one9rf (hook_ok (G := []) (L := noHooks) (f := 600) (sameX := []) SQ1_ok mixed (by decide) (loops_none _ _ _ _) ?_), (rfR (fun vals h => vals = iv (L.map rcV) (L.length : Int) (i : Int) 0 ∧ h = iH (L.getD i rc0)) _ K L i hL.1 hi).mpr (rfm_ok b1.1 b1.2 ⟨⟨rfl, rfl⟩, hK⟩)⟩⟩
        rintro vals h K ⟨⟨rfl, rfl⟩, hK⟩
        exact rf_inR hin b2 hK
      | true =>
        have hsp : LSpec 0 Tryz.prog 67 (oneLoop (oneLoop (codeOf Tryz.f10) 4) 9) (hookLS 0 67 [0, 3, 4, 10, 11, 12, 29, 30, 31] [] [2, 0, 3, 4, 10, 11, 12] (fun vals h K => (vals = iv (L.map rcV) (L.length : Int) (i : Int) 0 ∧ h = iH (L.getD i rc0)) ∧ K (.exit 2) (anyV :: ix (L.map rcV) (L.length : Int) (i : Int)) (xH (L.getD i rc0)))) := by
          refine hook_ok (G := []) (L := noHooks) (f := 600) (sameX := []) SQ1_ok mixed (by decide) (loops_none _ _ _ _) ?_
          rintro vals h K ⟨⟨rfl, rfl⟩, hK⟩
          exact rf_inX hin b2 hK
        by_cases b3 : okJ_ (L.getD i rc0) (pvA L i)
        · obtain ⟨e, e1, e2⟩ := rf_bad hL r (i + 1) (by omega) (by
            obtain ⟨j, q1, q2, q3⟩ := h2
            rcases Nat.eq_or_lt_of_le q1 with q | q
            · subst q
              exact absurd ⟨⟨b1.1, b1.2, b2, b3.1⟩, b3.2⟩ q3
            · exact ⟨j, q, q2, q3⟩)
          exact ⟨e, e1, fun K hK => rf_itE (r + 1) ⟨_, _, _, _, SQ1_ok, loops_one one9rf hsp, (rfX _ _ K L i hL.1 hi).mpr (rfm_ok b1.1 b1.2 ⟨⟨rfl, rfl⟩, rfT_ok b3 (e2 K hK)⟩)⟩⟩
        · obtain ⟨e, e1, e2⟩ := rfT_bad b3
          exact ⟨e, e1, fun K hK => rf_itE (r + 1) ⟨_, _, _, _, SQ1_ok, loops_one one9rf hsp, (rfX _ _ K L i hL.1 hi).mpr (rfm_ok b1.1 b1.2 ⟨⟨rfl, rfl⟩, e2 _ _ hK⟩)⟩⟩
    · exact ⟨1, by decide, fun K hK => rf_itE (r + 1) ⟨_, _, _, _, SQ1_ok, loops_one one9rf (hook_ok (G := []) (L := noHooks) (f := 600) (sameX := []) SQ1_ok mixed (by decide) (loops_none _ _ _ _) (fun vals h K q => q.1.elim)), (rfX (fun _ _ => False) _ K L i hL.1 hi).mpr (rfm_bad b1 hK)⟩⟩
theorem rf_fn {L : List Rc} (hL : Ln L) : ∃ e : Int, (e = 0 ↔ okL L) ∧ FnOK 0 Tryz.prog 10 ⟨[fz ⟨L.map rcV⟩]⟩ h0 (fun v _ => v = .int .i64 e) := by
  have hz : ((Array.mk (L.map rcV)).size : Int) = (L.length : Int) := by simp
  have h5 := hL.1
  by_cases h : okL L
  · refine ⟨0, ⟨fun _ => h, fun _ => rfl⟩, ?_⟩
    have hsp : LSpec 0 Tryz.prog 67 (oneLoop (codeOf Tryz.f10) 4) (hookLS 0 67 [0, 10, 11, 12] [] [2] (fun vals h K => (vals = cv L 0 ∧ h = h0) ∧ K (.exit 0) [anyV] h0)) := by
      refine hookE_ok (sameX := []) mixed (by decide) ?_
      rintro vals h K ⟨⟨rfl, rfl⟩, hK⟩
      exact ⟨_, rf_ok hL K hK L.length 0 (by omega) fun j _ hj => h j hj⟩
    refine FnOK.ttree SQ1_ok mixed Tryz.func10 somerf (loops_one one4rf hsp) (rffX (L.map rcV) _ (fun v => v = .int .i64 0)) ?_
    exact pick_f (decide_eq_false (by omega)) ⟨⟨by rw [hz]; rfl, rfl⟩, rfl⟩
  · have hx : ∃ j, 0 ≤ j ∧ j < L.length ∧ ¬ okI (L.getD j rc0) (pvA L j) := by
      refine Classical.byContradiction fun q => h fun j hj => Classical.byContradiction fun q2 => q ⟨j, Nat.zero_le _, hj, q2⟩
    obtain ⟨e, e1, e2⟩ := rf_bad hL L.length 0 (by omega) hx
    refine ⟨e, ⟨fun q => absurd q e1, fun q => absurd q h⟩, ?_⟩
    have hsp : LSpec 0 Tryz.prog 67 (oneLoop (codeOf Tryz.f10) 4) (hookLS 0 67 [0, 10, 11, 12] [] [2] (fun vals h K => (vals = cv L 0 ∧ h = h0) ∧ K .ret [.int .i64 e] h0)) := by
      refine hookE_ok (sameX := []) mixed (by decide) ?_
      rintro vals h K ⟨⟨rfl, rfl⟩, hK⟩
      exact ⟨_, e2 K hK⟩
    refine FnOK.ttree SQ1_ok mixed Tryz.func10 somerf (loops_one one4rf hsp) (rffR (L.map rcV) e _ (fun v => v = .int .i64 e)) ?_
    exact pick_f (decide_eq_false (by omega)) ⟨⟨by rw [hz]; rfl, rfl⟩, rfl⟩
/-- What is wrong with records. -/
def rfIs (vs : List Value) (e : Int) : Prop := FnOK 0 Tryz.prog 10 ⟨[fz ⟨vs⟩]⟩ h0 (fun v _ => v = .int .i64 e) ∧ ∀ L, Ln L → vs = L.map rcV → (e = 0 ↔ okL L)
theorem rf_ex {vs : List Value} (h : okV vs = true) : ∃ e, rfIs vs e := by
  obtain ⟨L, hL, rfl⟩ := okV_iff.1 h
  obtain ⟨e, e1, e2⟩ := rf_fn hL
  exact ⟨e, e2, fun M _ q => by rw [← rcV_map q]; exact e1⟩
open Classical in
noncomputable def rfC (vs : List Value) : Int := if h : ∃ e, rfIs vs e then h.choose else 0
theorem rfC_ok {vs : List Value} (h : okV vs = true) : rfIs vs (rfC vs) := by
  have h := rf_ex h
  unfold rfC
  rw [dif_pos h]
  exact h.choose_spec
noncomputable def spRf (f : FuncId) (args : Array Value) (h : AH) : Option (Bool × Value × AH) :=
  cond (Nat.beq f 10) (match args with
    | ⟨[.func (.yield 0) ⟨vs⟩ ⟨[]⟩]⟩ => some (okV vs, .int .i64 (rfC vs), h)
    | _ => none) none
theorem spRf_ok : SpOK spRf := by
  intro f args h v h' hs
  unfold spRf at hs
  obtain ⟨hf, hs2⟩ := cond_some hs
  clear hs
  have := Nat.eq_of_beq_eq_true hf
  subst this
  split at hs2
  · injection hs2 with hs
    injection hs with hb hs
    injection hs with hv hh
    subst hv hh
    rename_i vs
    exact ⟨FnOK.pure (rfC_ok hb).1 rfl rfl h, Nat.le_refl _⟩
  · cases hs2
end Go.Proofs.YtfhhhfgbedddhaaGreatDoor
