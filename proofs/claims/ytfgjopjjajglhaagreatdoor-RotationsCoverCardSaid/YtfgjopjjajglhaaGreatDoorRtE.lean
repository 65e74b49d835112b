/-
  Signers in a row: 'Uncovered' as a specification; the law's run.
-/
import Derived.Test.YtfgjopjjajglhaaGreatDoorRtD
namespace Go.Proofs.YtfgjopjjajglhaaGreatDoor
open Go.Ev Go.RowKit RotLaw

theorem toI_map (Z : List Int) : (Z.map iV).map toInt = Z := by
  rw [List.map_map]
  have : toInt ∘ iV = id := by funext z; rfl
  rw [this, List.map_id]
theorem allI_map (Z : List Int) : (Z.map iV).all isI = true := by
  rw [List.all_eq_true]
  intro v hv
  obtain ⟨z, _, rfl⟩ := List.mem_map.1 hv
  rfl
theorem p1_map (Z : List Int) : (Z.map iV).all p1 = true := by
  rw [List.all_eq_true]
  intro v hv
  obtain ⟨z, _, rfl⟩ := List.mem_map.1 hv
  rfl
theorem nnI (Z : List Int) (t : TypeId) (fr : Nat × Nat) : NoNames (.cells ⟨Z.map iV⟩ t fr) := by
  intro v hv
  obtain ⟨z, _, rfl⟩ := List.mem_map.1 (show v ∈ Z.map iV from hv)
  rfl
theorem chunk_i : ∀ (Z : List Int) (r : List Value), chunk false 1 Z.length (Z.map iV ++ r) = Z.map iV
  | [], _ => rfl
  | z :: l, r => by
    have := chunk_i l r
    show mkE false 1 (iV z :: (l.map iV ++ r)) :: chunk false 1 l.length ((iV z :: (l.map iV ++ r)).drop 1) = _
    rw [show (iV z :: (l.map iV ++ r)).drop 1 = l.map iV ++ r from rfl, this]
    rfl
/-- The moments so far. -/
def okZ (T : Int) (Z : List Int) : Prop := (∀ z ∈ Z, 0 ≤ z ∧ z ≤ T) ∧ 0 ∈ Z ∧ T ∈ Z
theorem apT_ex {T x : Int} {Z : List Int} (hZ : okZ T Z) (hl : Z.length ≤ 100) : ∃ Z', okZ T Z' ∧ Z'.length ≤ Z.length + 1 ∧ ∀ K : List Value → Nat → Prop, K (Z'.map iV) Z'.length → apT T x (Z.map iV) Z.length K := by
  by_cases h1 : x > 0
  · by_cases h2 : x < T
    · refine ⟨Z ++ [x], ⟨fun z hz => ?_, by simp [hZ.2.1], by simp [hZ.2.2]⟩, by simp, fun K hK => ?_⟩
      · rcases List.mem_append.1 hz with q | q
        · exact hZ.1 z q
        · rw [List.mem_singleton.1 q]; omega
      · refine pick_t (decide_eq_true h1) (pick_t (decide_eq_true h2) (pick_f (ble_ss _) (need_mk ?_ (need_mk ?_ ?_))))
        · rw [Bool.and_eq_true, Nat.ble_eq, Nat.ble_eq]; omega
        · have : (0 + Z.length * 1).ble (Array.mk (Z.map iV)).size = true := by
            rw [Nat.ble_eq]
            show 0 + Z.length * 1 ≤ (Z.map iV).length
            rw [List.length_map]; omega
          rw [this]; rfl
        · have e : List.take (Z.length * 1) (List.drop 0 (Array.mk (Z.map iV)).toList) ++ [.int .i64 x] = (Z ++ [x]).map iV := by
            rw [List.drop_zero, Nat.mul_one, List.map_append]
            show List.take Z.length (Z.map iV) ++ _ = _
            rw [List.take_of_length_le (by rw [List.length_map]; exact Nat.le_refl _)]
            rfl
          rw [e]
          rw [List.length_append] at hK
          exact hK
    · exact ⟨Z, hZ, by omega, fun K hK => pick_t (decide_eq_true h1) (pick_f (decide_eq_false h2) hK)⟩
  · exact ⟨Z, hZ, by omega, fun K hK => pick_f (decide_eq_false h1) hK⟩
theorem in_it (n : Nat) {vals : List Value} {h : AH} {K : AExit → List Value → AH → Prop} (hx : once 0 Tryz.prog SU1 [] noHooks 600 152 [0, 2, 4, 9, 43, 44, 45, 58, 59, 60] [1] [0, 2, 4, 9, 43, 44, 45] [1] (oneLoop (oneLoop (codeOf Tryz.f7) 8) 11) vals h (fun v g => iter 0 Tryz.prog SU1 [] noHooks 600 152 [0, 2, 4, 9, 43, 44, 45, 58, 59, 60] [1] [0, 2, 4, 9, 43, 44, 45] [1] (oneLoop (oneLoop (codeOf Tryz.f7) 8) 11) n v g K) K) : iter 0 Tryz.prog SU1 [] noHooks 600 152 [0, 2, 4, 9, 43, 44, 45, 58, 59, 60] [1] [0, 2, 4, 9, 43, 44, 45] [1] (oneLoop (oneLoop (codeOf Tryz.f7) 8) 11) (n + 1) vals h K := hx
set_option maxRecDepth 20000 in
theorem in_ex (vs : List Value) (life T len i a b c : Int) {Z : List Int} (hZ : okZ T Z) (hl : Z.length ≤ 50) : ∃ Z', okZ T Z' ∧ Z'.length ≤ Z.length + 3 ∧ ∀ K : AExit → List Value → AH → Prop,
    K (.exit 2) (ov vs life Z'.length len i) (oH T (Z'.map iV)) → ∃ R, iter 0 Tryz.prog SU1 [] noHooks 600 152 [0, 2, 4, 9, 43, 44, 45, 58, 59, 60] [1] [0, 2, 4, 9, 43, 44, 45] [1] (oneLoop (oneLoop (codeOf Tryz.f7) 8) 11) R (iv vs life Z.length len i 0) (iH T (Z.map iV) a b c) K := by
  obtain ⟨Z1, a1, a2, a3⟩ := apT_ex (x := a) hZ (by omega)
  obtain ⟨Z2, b1, b2, b3⟩ := apT_ex (x := b) a1 (by omega)
  obtain ⟨Z3, c1, c2, c3⟩ := apT_ex (x := c) b1 (by omega)
  refine ⟨Z3, c1, by omega, fun K hK => ⟨4, ?_⟩⟩
  refine in_it 3 ((ri0 vs life T len i a b c _ _ _ K).mpr (a3 _ ⟨nnI _ _ _, ?_⟩))
  show iter 0 Tryz.prog SU1 [] noHooks 600 152 [0, 2, 4, 9, 43, 44, 45, 58, 59, 60] [1] [0, 2, 4, 9, 43, 44, 45] [1] (oneLoop (oneLoop (codeOf Tryz.f7) 8) 11) 3 (iv vs life Z1.length len i 1) (iH T (Z1.map iV) a b c) K
  refine in_it 2 ((ri1 vs life T len i a b c _ _ _ K).mpr (b3 _ ⟨nnI _ _ _, ?_⟩))
  show iter 0 Tryz.prog SU1 [] noHooks 600 152 [0, 2, 4, 9, 43, 44, 45, 58, 59, 60] [1] [0, 2, 4, 9, 43, 44, 45] [1] (oneLoop (oneLoop (codeOf Tryz.f7) 8) 11) 2 (iv vs life Z2.length len i 2) (iH T (Z2.map iV) a b c) K
  refine in_it 1 ((ri2 vs life T len i a b c _ _ _ K).mpr (c3 _ ⟨nnI _ _ _, ?_⟩))
  show iter 0 Tryz.prog SU1 [] noHooks 600 152 [0, 2, 4, 9, 43, 44, 45, 58, 59, 60] [1] [0, 2, 4, 9, 43, 44, 45] [1] (oneLoop (oneLoop (codeOf Tryz.f7) 8) 11) 1 (iv vs life Z3.length len i 3) (iH T (Z3.map iV) a b c) K
  exact in_it 0 ((ri3 vs life T len i a b c _ _ _ K).mpr ⟨nnI _ _ _, hK⟩)
theorem one11 : (loopAt (oneLoop (codeOf Tryz.f7) 8) 11).length = 1 := by kernel_rfl
theorem one8 : (loopAt (codeOf Tryz.f7) 8).length = 1 := by kernel_rfl
theorem one21 : (loopAt (codeOf Tryz.f7) 21).length = 1 := by kernel_rfl
theorem someUN : Tryz.f7.body.isSome = true := by kernel_rfl
theorem ridsUN : ((loopsOf (codeOf Tryz.f7)).all fun b => match rid b with | some j => Nat.blt j 1000000 | none => true) = true := by kernel_rfl
theorem o_it (n : Nat) {vals : List Value} {h : AH} {K : AExit → List Value → AH → Prop} (hx : ∃ S G L f, S.cfg.OK Tryz.prog ∧ LoopsOK 0 Tryz.prog 152 L (oneLoop (codeOf Tryz.f7) 8) ∧ once 0 Tryz.prog S G L f 152 [0, 2, 4, 9, 43, 44, 45] [1] [0, 2, 9] [0] (oneLoop (codeOf Tryz.f7) 8) vals h (fun v g => iterE 0 Tryz.prog 152 [0, 2, 4, 9, 43, 44, 45] [1] [0, 2, 9] [0] (oneLoop (codeOf Tryz.f7) 8) n v g K) K) : iterE 0 Tryz.prog 152 [0, 2, 4, 9, 43, 44, 45] [1] [0, 2, 9] [0] (oneLoop (codeOf Tryz.f7) 8) (n + 1) vals h K := hx
theorem o_loop {L : List Sg} (hL : L.length ≤ 4) (life T : Int) : ∀ (r i : Nat) (Z : List Int), i + r = L.length → okZ T Z → Z.length ≤ 2 + 3 * i → ∃ Z', okZ T Z' ∧ Z'.length ≤ 14 ∧ ∀ K : AExit → List Value → AH → Prop,
    K (.exit 0) [fz ⟨L.map svV⟩, .int .i64 life, .slice (some ⟨0, 0, none⟩) Z'.length Z'.length] (aH (Z'.map iV)) → iterE 0 Tryz.prog 152 [0, 2, 4, 9, 43, 44, 45] [1] [0, 2, 9] [0] (oneLoop (codeOf Tryz.f7) 8) (r + 1) (ov (L.map svV) life Z.length (L.length : Int) (i : Int)) (oH T (Z.map iV)) K
  | 0, i, Z, h1, h2, h3 => by
    have : i = L.length := by omega
    subst this
    exact ⟨Z, h2, by omega, fun K hK => o_it 0 ⟨_, _, _, _, SU1_ok, loops_none _ _ _ _, (roE _ _ _ _ _ K L hL).mpr ⟨nnI _ _ _, hK⟩⟩⟩
  | r + 1, i, Z, h1, h2, h3 => by
    have hi : i < L.length := by omega
    obtain ⟨Z1, a1, a2, a3⟩ := in_ex (L.map svV) life T (L.length : Int) (i : Int) (L.getD i sg0).fr (L.getD i sg0).to (IntKind.i64.wrap (IntKind.i64.wrap ((L.getD i sg0).un - life) + 1)) h2 (by omega)
    obtain ⟨Z', b1, b2, b3⟩ := o_loop hL life T r (i + 1) Z1 (by omega) a1 (by omega)
    refine ⟨Z', b1, b2, fun K hK => o_it (r + 1) ⟨_, _, _, _, SU1_ok, loops_one one11 (hook_ok (G := []) (L := noHooks) (f := 600) (sameX := [1]) SU1_ok mixed (by decide) (loops_none _ _ _ _) ?_),
      (roX life T Z.length Z1.length (Z.map iV) (Z1.map iV) (fun vals h => vals = iv (L.map svV) life Z.length (L.length : Int) (i : Int) 0 ∧ h = iH T (Z.map iV) (L.getD i sg0).fr (L.getD i sg0).to (IntKind.i64.wrap (IntKind.i64.wrap ((L.getD i sg0).un - life) + 1))) _ K L i hL hi).mpr ⟨nnI _ _ _, ⟨rfl, rfl⟩, nnI _ _ _, b3 K hK⟩⟩⟩
    rintro vals h K ⟨⟨rfl, rfl⟩, hQ⟩
    exact a3 K hQ
/-! The second loop -/
theorem u_it (n : Nat) {vals : List Value} {h : AH} {K : AExit → List Value → AH → Prop} (hx : once 0 Tryz.prog SU2 [] noHooks 600 152 [0, 2, 9, 14, 15] [] [14] [] (oneLoop (codeOf Tryz.f7) 21) vals h (fun v g => iter 0 Tryz.prog SU2 [] noHooks 600 152 [0, 2, 9, 14, 15] [] [14] [] (oneLoop (codeOf Tryz.f7) 21) n v g K) K) : iter 0 Tryz.prog SU2 [] noHooks 600 152 [0, 2, 9, 14, 15] [] [14] [] (oneLoop (codeOf Tryz.f7) 21) (n + 1) vals h K := hx
set_option maxRecDepth 100000 in
theorem un_all (vs : List Value) (life : Int) (B : List Value → AH → Prop) (Q : AExit → List Value → AH → Prop) : ∀ (W : List Int), 2 ≤ W.length → W.length ≤ 14 → ∀ i : Nat, i < W.length - 1 → okSa vs (W.getD i 0) = true → W.getD i 0 + life ≤ (saW vs (W.getD i 0)).un → 0 ≤ W.getD i 0 → W.getD i 0 ≤ 1000 → 0 ≤ life → life ≤ 50 →
    B (uv vs life W nilV ((i + 1 : Nat) : Int)) h0 → once 0 Tryz.prog SU2 [] noHooks 600 152 [0, 2, 9, 14, 15] [] [14] [] (oneLoop (codeOf Tryz.f7) 21) (uv vs life W nilV (i : Int)) h0 B Q
  | [w0, w1], _, _, i, hi, h1, h2, h3, h4, h5, h6, hB => (un2 vs life w0 w1 B Q i (by simpa using hi)).mpr (need_mk h1 (pick_t (decide_eq_true (by rw [wrap_id _ (by omega) (by omega)]; exact h2)) hB))
  | [w0, w1, w2], _, _, i, hi, h1, h2, h3, h4, h5, h6, hB => (un3 vs life w0 w1 w2 B Q i (by simpa using hi)).mpr (need_mk h1 (pick_t (decide_eq_true (by rw [wrap_id _ (by omega) (by omega)]; exact h2)) hB))
  | [w0, w1, w2, w3], _, _, i, hi, h1, h2, h3, h4, h5, h6, hB => (un4 vs life w0 w1 w2 w3 B Q i (by simpa using hi)).mpr (need_mk h1 (pick_t (decide_eq_true (by rw [wrap_id _ (by omega) (by omega)]; exact h2)) hB))
  | [w0, w1, w2, w3, w4], _, _, i, hi, h1, h2, h3, h4, h5, h6, hB => (un5 vs life w0 w1 w2 w3 w4 B Q i (by simpa using hi)).mpr (need_mk h1 (pick_t (decide_eq_true (by rw [wrap_id _ (by omega) (by omega)]; exact h2)) hB))
  | [w0, w1, w2, w3, w4, w5], _, _, i, hi, h1, h2, h3, h4, h5, h6, hB => (un6 vs life w0 w1 w2 w3 w4 w5 B Q i (by simpa using hi)).mpr (need_mk h1 (pick_t (decide_eq_true (by rw [wrap_id _ (by omega) (by omega)]; exact h2)) hB))
  | [w0, w1, w2, w3, w4, w5, w6], _, _, i, hi, h1, h2, h3, h4, h5, h6, hB => (un7 vs life w0 w1 w2 w3 w4 w5 w6 B Q i (by simpa using hi)).mpr (need_mk h1 (pick_t (decide_eq_true (by rw [wrap_id _ (by omega) (by omega)]; exact h2)) hB))
  | [w0, w1, w2, w3, w4, w5, w6, w7], _, _, i, hi, h1, h2, h3, h4, h5, h6, hB => (un8 vs life w0 w1 w2 w3 w4 w5 w6 w7 B Q i (by simpa using hi)).mpr (need_mk h1 (pick_t (decide_eq_true (by rw [wrap_id _ (by omega) (by omega)]; exact h2)) hB))
  | [w0, w1, w2, w3, w4, w5, w6, w7, w8], _, _, i, hi, h1, h2, h3, h4, h5, h6, hB => (un9 vs life w0 w1 w2 w3 w4 w5 w6 w7 w8 B Q i (by simpa using hi)).mpr (need_mk h1 (pick_t (decide_eq_true (by rw [wrap_id _ (by omega) (by omega)]; exact h2)) hB))
  | [w0, w1, w2, w3, w4, w5, w6, w7, w8, w9], _, _, i, hi, h1, h2, h3, h4, h5, h6, hB => (un10 vs life w0 w1 w2 w3 w4 w5 w6 w7 w8 w9 B Q i (by simpa using hi)).mpr (need_mk h1 (pick_t (decide_eq_true (by rw [wrap_id _ (by omega) (by omega)]; exact h2)) hB))
  | [w0, w1, w2, w3, w4, w5, w6, w7, w8, w9, w10], _, _, i, hi, h1, h2, h3, h4, h5, h6, hB => (un11 vs life w0 w1 w2 w3 w4 w5 w6 w7 w8 w9 w10 B Q i (by simpa using hi)).mpr (need_mk h1 (pick_t (decide_eq_true (by rw [wrap_id _ (by omega) (by omega)]; exact h2)) hB))
  | [w0, w1, w2, w3, w4, w5, w6, w7, w8, w9, w10, w11], _, _, i, hi, h1, h2, h3, h4, h5, h6, hB => (un12 vs life w0 w1 w2 w3 w4 w5 w6 w7 w8 w9 w10 w11 B Q i (by simpa using hi)).mpr (need_mk h1 (pick_t (decide_eq_true (by rw [wrap_id _ (by omega) (by omega)]; exact h2)) hB))
  | [w0, w1, w2, w3, w4, w5, w6, w7, w8, w9, w10, w11, w12], _, _, i, hi, h1, h2, h3, h4, h5, h6, hB => (un13 vs life w0 w1 w2 w3 w4 w5 w6 w7 w8 w9 w10 w11 w12 B Q i (by simpa using hi)).mpr (need_mk h1 (pick_t (decide_eq_true (by rw [wrap_id _ (by omega) (by omega)]; exact h2)) hB))
  | [w0, w1, w2, w3, w4, w5, w6, w7, w8, w9, w10, w11, w12, w13], _, _, i, hi, h1, h2, h3, h4, h5, h6, hB => (un14 vs life w0 w1 w2 w3 w4 w5 w6 w7 w8 w9 w10 w11 w12 w13 B Q i (by simpa using hi)).mpr (need_mk h1 (pick_t (decide_eq_true (by rw [wrap_id _ (by omega) (by omega)]; exact h2)) hB))
  | [], h, _, _, _, _, _, _, _, _, _, _ => absurd h (by simp)
  | [_], h, _, _, _, _, _, _, _, _, _, _ => absurd h (by simp)
  | _ :: _ :: _ :: _ :: _ :: _ :: _ :: _ :: _ :: _ :: _ :: _ :: _ :: _ :: _ :: _, _, h, _, _, _, _, _, _, _, _, _ => absurd h (by simp)
set_option maxRecDepth 100000 in
theorem uE_all (vs : List Value) (life : Int) (B : List Value → AH → Prop) (Q : AExit → List Value → AH → Prop) : ∀ (W : List Int), 2 ≤ W.length → W.length ≤ 14 → Q (.exit 4) [nilV] h0 → once 0 Tryz.prog SU2 [] noHooks 600 152 [0, 2, 9, 14, 15] [] [14] [] (oneLoop (codeOf Tryz.f7) 21) (uv vs life W nilV ((W.length - 1 : Nat) : Int)) h0 B Q
  | [w0, w1], _, _, hQ => (uE2 vs life w0 w1 B Q).mpr hQ
  | [w0, w1, w2], _, _, hQ => (uE3 vs life w0 w1 w2 B Q).mpr hQ
  | [w0, w1, w2, w3], _, _, hQ => (uE4 vs life w0 w1 w2 w3 B Q).mpr hQ
  | [w0, w1, w2, w3, w4], _, _, hQ => (uE5 vs life w0 w1 w2 w3 w4 B Q).mpr hQ
  | [w0, w1, w2, w3, w4, w5], _, _, hQ => (uE6 vs life w0 w1 w2 w3 w4 w5 B Q).mpr hQ
  | [w0, w1, w2, w3, w4, w5, w6], _, _, hQ => (uE7 vs life w0 w1 w2 w3 w4 w5 w6 B Q).mpr hQ
  | [w0, w1, w2, w3, w4, w5, w6, w7], _, _, hQ => (uE8 vs life w0 w1 w2 w3 w4 w5 w6 w7 B Q).mpr hQ
  | [w0, w1, w2, w3, w4, w5, w6, w7, w8], _, _, hQ => (uE9 vs life w0 w1 w2 w3 w4 w5 w6 w7 w8 B Q).mpr hQ
  | [w0, w1, w2, w3, w4, w5, w6, w7, w8, w9], _, _, hQ => (uE10 vs life w0 w1 w2 w3 w4 w5 w6 w7 w8 w9 B Q).mpr hQ
  | [w0, w1, w2, w3, w4, w5, w6, w7, w8, w9, w10], _, _, hQ => (uE11 vs life w0 w1 w2 w3 w4 w5 w6 w7 w8 w9 w10 B Q).mpr hQ
  | [w0, w1, w2, w3, w4, w5, w6, w7, w8, w9, w10, w11], _, _, hQ => (uE12 vs life w0 w1 w2 w3 w4 w5 w6 w7 w8 w9 w10 w11 B Q).mpr hQ
  | [w0, w1, w2, w3, w4, w5, w6, w7, w8, w9, w10, w11, w12], _, _, hQ => (uE13 vs life w0 w1 w2 w3 w4 w5 w6 w7 w8 w9 w10 w11 w12 B Q).mpr hQ
  | [w0, w1, w2, w3, w4, w5, w6, w7, w8, w9, w10, w11, w12, w13], _, _, hQ => (uE14 vs life w0 w1 w2 w3 w4 w5 w6 w7 w8 w9 w10 w11 w12 w13 B Q).mpr hQ
  | [], h, _, _ => absurd h (by simp)
  | [_], h, _, _ => absurd h (by simp)
  | _ :: _ :: _ :: _ :: _ :: _ :: _ :: _ :: _ :: _ :: _ :: _ :: _ :: _ :: _ :: _, _, h, _ => absurd h (by simp)
set_option maxRecDepth 20000 in
theorem u_loop {vs : List Value} {life : Int} {W : List Int} (l0 : 0 ≤ life) (l1 : life ≤ 50) (h2 : 2 ≤ W.length) (h14 : W.length ≤ 14) (hW : ∀ i, i < W.length - 1 → okSa vs (W.getD i 0) = true ∧ W.getD i 0 + life ≤ (saW vs (W.getD i 0)).un ∧ 0 ≤ W.getD i 0 ∧ W.getD i 0 ≤ 1000)
    (K : AExit → List Value → AH → Prop) (hK : K (.exit 4) [nilV] h0) : ∀ (r i : Nat), i + r = W.length - 1 → iter 0 Tryz.prog SU2 [] noHooks 600 152 [0, 2, 9, 14, 15] [] [14] [] (oneLoop (codeOf Tryz.f7) 21) (r + 1) (uv vs life W nilV (i : Int)) h0 K
  | 0, i, h => by
    have : i = W.length - 1 := by omega
    subst this
    exact u_it 0 (uE_all vs life _ K W h2 h14 hK)
  | r + 1, i, h => by
    obtain ⟨a, b, c, d⟩ := hW i (by omega)
    exact u_it (r + 1) (un_all vs life _ K W h2 h14 i (by omega) a b c d l0 l1 (u_loop l0 l1 h2 h14 hW K hK r (i + 1) (by omega)))
/-! Uncovered -/
noncomputable def SU3 : SC := ⟨idn, spOr spCs (spOr spSo spCo), true, true⟩
theorem SU3_ok : SU3.cfg.OK Tryz.prog := (spCs_ok.or (spSo_ok.or spCo_ok)).cfg
noncomputable def S1 (cs : List Value) : List Value := (srt (cs.map toInt)).map iV
noncomputable def qW (cs : List Value) : Nat := (Go.Lib.compact ((S1 cs).map toInt)).length
noncomputable def S2 (cs : List Value) : List Value := (cut ((S1 cs).map toInt)).map iV
theorem unf (vs : List Value) (life T : Int) (cs : List Value) (m : Nat) (C D : List Value → AH → Prop) (Q : Value → Prop) :
    tfn Tryz.prog SU3 [] (hookOr (ghost1 18 (freezeG 152 false 1 [9])) (hookOr (hook1 8 (hookLS 0 152 [0, 2, 4, 9, 43, 44, 45] [1] [0, 2, 9] (fun vals h K => C vals h ∧ K (.exit 0) [fz ⟨vs⟩, .int .i64 life, .slice (some ⟨0, 0, none⟩) m m] (aH cs)))) (hook1 21 (hookLS 0 152 [0, 2, 9, 14, 15] [] [14] (fun vals h K => D vals h ∧ K (.exit 4) [nilV] h0))))) 600 [] Tryz.f7 [fz ⟨vs⟩, .agg ⟨[.int .i64 0, .int .i64 T]⟩, .int .i64 life] h0 (fun v _ => Q v) =
      bif okG vs then bif decide (0 > T) then Q (.tuple ⟨[nilV, .int .i64 1]⟩) else bif decide (T > 345686400000) then Q (.tuple ⟨[nilV, .int .i64 1]⟩) else bif decide (life < 0) then Q (.tuple ⟨[nilV, .int .i64 1]⟩) else bif decide (life > 345686400000) then Q (.tuple ⟨[nilV, .int .i64 1]⟩) else
        NoNames (.cells ⟨[.int .i64 0, .int .i64 T]⟩ 3 (0, 0)) ∧ C (ov vs life 2 ((Array.mk vs).size : Int) 0) (oH T [.int .i64 0, .int .i64 T]) ∧
        bif cs.all isI && cs.length.beq m && m.ble 1000 then bif (S1 cs).all isI && (S1 cs).length.beq m && m.ble 1000 && m.ble m then
          bif ((Nat.beq (qW cs) (qW cs) && Nat.beq m m) && true) && (S2 cs).all p1 && Nat.ble (qW cs) m && (qW cs * 1).ble (S2 cs).length && true then
            D [fz ⟨vs⟩, .int .i64 life, fz ⟨chunk false 1 (qW cs) (S2 cs)⟩, nilV, .int .i64 0] h0 ∧ Q (.tuple ⟨[nilV, .int .i64 0]⟩)
          else False else False else False
      else False := by kernel_rfl
end Go.Proofs.YtfgjopjjajglhaaGreatDoor
