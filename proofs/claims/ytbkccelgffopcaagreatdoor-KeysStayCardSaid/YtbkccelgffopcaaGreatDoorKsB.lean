/-
  The loop of 'KeysStay': for each key the order with one more instance is the order without, and the new one somewhere in it.
-/
import Derived.Test.YtbkccelgffopcaaGreatDoorKsA
namespace Go.Proofs.YtbkccelgffopcaaGreatDoor
open Go.Ev Go.RowKit

theorem ksinj : (ks7.all fun v => ks7.all fun u => !((toStr v).toList == (toStr u).toList) || keyIs (toStr v) (toStr u)) = true := by kernel_rfl
theorem hasS_mov (X Y : List Value) (s : ByteArray) : ∀ l : List Value, hasS ((movL X Y l).map Value.string) s = l.any fun v => mvB X Y (toStr v) && (s.toList == (toStr v).toList)
  | [] => rfl
  | v :: l => by
    have ih := hasS_mov X Y s l
    simp only [List.any_cons]
    cases hb : mvB X Y (toStr v) with
    | true => simp only [movL, hb, cond_true, List.map_cons, hasS, List.any_cons, Bool.true_and]; rw [← ih]; rfl
    | false => simp only [movL, hb, cond_false, Bool.false_and, Bool.false_or]; exact ih
theorem hasS_ks (X Y : List Value) {v : Value} (hv : v ∈ ks7) : hasS ((movL X Y ks7).map Value.string) (toStr v) = mvB X Y (toStr v) := by
  rw [hasS_mov]
  cases hb : mvB X Y (toStr v) with
  | true =>
    rw [List.any_eq_true]
    exact ⟨v, hv, by rw [hb]; simp⟩
  | false =>
    rw [← Bool.not_eq_true, List.any_eq_true]
    rintro ⟨u, hu, h⟩
    rw [Bool.and_eq_true] at h
    have h1 := List.all_eq_true.1 (List.all_eq_true.1 ksinj v hv) u hu
    rw [h.2] at h1
    have h2 : toStr v = toStr u := keyIs_eq (by simpa using h1)
    rw [← h2, hb] at h
    cases h.1
theorem kq_mem {i : Nat} (hi : i < 7) : ks7.getD i (Value.tuple { toList := [] }) ∈ ks7 := by
  have hi : i < ks7.length := hi
  have : ks7.getD i (Value.tuple { toList := [] }) = ks7[i] := by simp [List.getD, hi]
  rw [this]
  exact List.getElem_mem _
theorem kq_eq {i : Nat} : kq ks7 (i : Int) = toStr (ks7.getD i (Value.tuple { toList := [] })) := by simp [kq]
theorem kq_has (X Y : List Value) {i : Nat} (hi : i < 7) : hasS ((movL X Y ks7).map Value.string) (kq ks7 (i : Int)) = mvB X Y (kq ks7 (i : Int)) := by
  rw [kq_eq]
  exact hasS_ks X Y (kq_mem hi)
theorem ks7_fit : (ks7.all fun v => !((toStr v).toList == (ByteArray.mk #[]).toList) && Nat.ble (toStr v).size 40) = true := by kernel_rfl
theorem kq_fit {i : Nat} (hi : i < 7) : ((kq ks7 (i : Int)).toList == (ByteArray.mk #[]).toList) = false ∧ (kq ks7 (i : Int)).size ≤ 40 := by
  have h := List.all_eq_true.1 ks7_fit _ (kq_mem hi)
  rw [Bool.and_eq_true, Nat.ble_eq] at h
  rw [kq_eq]
  exact ⟨by simpa using h.1, h.2⟩
theorem keys4_ne : (keys4.all fun s => s.all fun a => !(a.toList == (ByteArray.mk #[105, 122]).toList)) = true := by kernel_rfl
theorem ord_ne {k : ByteArray} {X : List Value} (hk : (plist X).map Prod.fst ∈ keys4) {p : ByteArray × Int} (hp : p ∈ sortO k (plist X)) : (p.1.toList == (ByteArray.mk #[105, 122]).toList) = false := by
  have h1 : p ∈ plist X := (sortO_perm k _).mem_iff.1 hp
  have h2 := List.all_eq_true.1 (List.all_eq_true.1 keys4_ne _ hk) p.1 (List.mem_map_of_mem h1)
  simpa using h2
theorem hdP_of {k : ByteArray} {X : List Value} {p : ByteArray × Int} {l : List (ByteArray × Int)} (h : sortO k (plist X) = p :: l) : hdP k X = p := by unfold hdP; rw [h]; rfl
/-- What is known of the instances, with and without the new one. -/
structure KsOK (X : List Value) (w : Int) (ms : List Value) : Prop where
  key : (plist X).map Prod.fst ∈ keys4
  rx : rightI X = true
  wx : (plist X).all wtOk = true
  ry : rightI (X ++ [instV (⟨#[105, 122]⟩, w)]) = true
  wy : (plist (X ++ [instV (⟨#[105, 122]⟩, w)])).all wtOk = true
  hm : (movL X (X ++ [instV (⟨#[105, 122]⟩, w)]) ks7).map Value.string = ms
theorem movL_len (X Y : List Value) : ∀ l : List Value, (movL X Y l).length ≤ l.length
  | [] => Nat.le_refl _
  | v :: l => by
    have := movL_len X Y l
    cases hb : mvB X Y (toStr v) <;> simp only [movL, hb, cond_true, cond_false, List.length_cons] <;> omega
theorem KsOK.strs {X : List Value} {w : Int} {ms : List Value} (h : KsOK X w ms) : (ms.all isStr && ms.length.ble 4000) = true := by
  rw [← h.hm, Bool.and_eq_true, Nat.ble_eq]
  refine ⟨?_, ?_⟩
  · rw [List.all_eq_true]
    intro v hv
    obtain ⟨s, _, rfl⟩ := List.mem_map.1 hv
    rfl
  · rw [List.length_map]
    have := movL_len X (X ++ [instV (⟨#[105, 122]⟩, w)]) ks7
    have := ks7_le
    omega
theorem KsOK.both {X : List Value} {w : Int} {ms : List Value} (h : KsOK X w ms) : (rightI (X ++ [instV (⟨#[105, 122]⟩, w)]) && (plist (X ++ [instV (⟨#[105, 122]⟩, w)])).all wtOk) = true := by rw [h.ry, h.wy]; rfl
theorem KsOK.told {X : List Value} {w : Int} {ms : List Value} (h : KsOK X w ms) {i : Nat} (hi : i < 7) {l : List (ByteArray × Int)} (hs : sortO (kq ks7 (i : Int)) (plist X) = l) : (rightI X && (kq ks7 (i : Int)).size.ble 1000 && toldL l (kq ks7 (i : Int)) X) = true := by
  rw [h.rx, toldL_eq.2 hs, Nat.ble_eq_true_of_le (Nat.le_trans (kq_fit hi).2 (by omega))]
  rfl
theorem KsOK.toldY {X : List Value} {w : Int} {ms : List Value} (h : KsOK X w ms) {i : Nat} (hi : i < 7) {l : List (ByteArray × Int)} (hs : sortO (kq ks7 (i : Int)) (plist (X ++ [instV (⟨#[105, 122]⟩, w)])) = l) : (rightI (X ++ [instV (⟨#[105, 122]⟩, w)]) && (kq ks7 (i : Int)).size.ble 1000 && toldL l (kq ks7 (i : Int)) (X ++ [instV (⟨#[105, 122]⟩, w)])) = true := by
  rw [h.ry, toldL_eq.2 hs, Nat.ble_eq_true_of_le (Nat.le_trans (kq_fit hi).2 (by omega))]
  rfl
theorem iz_self : (ByteArray.toList ⟨#[105, 122]⟩ == ByteArray.toList ⟨#[105, 122]⟩) = true := by kernel_rfl
/-- The new one is first: the key has moved. -/
theorem KsOK.first {X : List Value} {w : Int} {ms : List Value} (h : KsOK X w ms) {i : Nat} (hi : i < 7) {p : ByteArray × Int} {l r : List (ByteArray × Int)} (hx : sortO (kq ks7 (i : Int)) (plist X) = p :: l)
    (hy : sortO (kq ks7 (i : Int)) (plist (X ++ [instV (⟨#[105, 122]⟩, w)])) = (⟨#[105, 122]⟩, w) :: r) : (!(hasS ms (kq ks7 (i : Int)) == ((ByteArray.mk #[105, 122]).toList == (ByteArray.mk #[105, 122]).toList))) = false := by
  rw [← h.hm, kq_has _ _ hi, iz_self]
  unfold mvB
  rw [hdP_of hx, hdP_of hy, ord_ne h.key (by rw [hx]; simp)]
  rfl
/-- It is not: it has not. -/
theorem KsOK.later {X : List Value} {w : Int} {ms : List Value} (h : KsOK X w ms) {i : Nat} (hi : i < 7) {a : ByteArray} {v : Int} {l r : List (ByteArray × Int)} (hx : sortO (kq ks7 (i : Int)) (plist X) = (a, v) :: l)
    (hy : sortO (kq ks7 (i : Int)) (plist (X ++ [instV (⟨#[105, 122]⟩, w)])) = (a, v) :: r) : (!(hasS ms (kq ks7 (i : Int)) == (a.toList == (ByteArray.mk #[105, 122]).toList))) = false := by
  have hz : (a.toList == (ByteArray.mk #[105, 122]).toList) = false := ord_ne (p := (a, v)) h.key (by rw [hx]; simp)
  rw [← h.hm, kq_has _ _ hi, hz]
  unfold mvB
  rw [hdP_of hx, hdP_of hy]
  simp
theorem plist_app (X : List Value) (w : Int) : plist (X ++ [instV (⟨#[105, 122]⟩, w)]) = plist X ++ [(⟨#[105, 122]⟩, w)] := by simp [plist, instV, Value.cells, toStr, toInt]
/-- One round. -/
def KsRound (X : List Value) (w : Int) (ms : List Value) (i : Nat) : Prop :=
  ∀ (B : List Value → AH → Prop) (Q : AExit → List Value → AH → Prop), B [fz ⟨X⟩, fz ⟨X ++ [instV (⟨#[105, 122]⟩, w)]⟩, fz ⟨ms⟩, fz ⟨ks7⟩, .int .i64 7, .int .i64 ((i + 1 : Nat) : Int)] h0 →
    ∃ (S : SC) (G : List (Nat × Bool)) (L : Hooks) (f : Nat), S.cfg.OK Tryz.prog ∧ LoopsOK 0 Tryz.prog 107 L (oneLoop (codeOf Tryz.f3) 10) ∧ once 0 Tryz.prog S G L f 107 [4, 5, 7, 56, 57, 58] [] [] [] (oneLoop (codeOf Tryz.f3) 10) [fz ⟨X⟩, fz ⟨X ++ [instV (⟨#[105, 122]⟩, w)]⟩, fz ⟨ms⟩, fz ⟨ks7⟩, .int .i64 7, .int .i64 (i : Int)] h0 B Q
theorem i_wrap {i : Nat} (hi : i < 7) : IntKind.i64.wrap ((i : Int) + 1) = ((i + 1 : Nat) : Int) := by rw [wrap_id _ (by omega) (by omega)]; rfl
theorem i_lt {i : Nat} (hi : i < 7) : decide ((i : Int) < 7) = true := by simp; omega
theorem i_in {i : Nat} (hi : i < 7) : (decide (0 ≤ (i : Int)) && decide ((i : Int) < ((Array.mk ks7).size : Int)) && true) = true := by
  have : ((Array.mk ks7).size : Int) = 7 := rfl
  rw [this]; simp; omega
theorem i_get {i : Nat} (hi : i < 7) : (Array.mk ks7).toList.getD (i : Int).toNat (Value.tuple { toList := [] }) = .string (kq ks7 (i : Int)) := by
  rw [kq_eq]
  simpa using str_get ks7_str (show i < ks7.length from hi)
theorem i_40 {i : Nat} (hi : i < 7) : decide (((kq ks7 (i : Int)).size : Int) > 40) = false := by
  have := (kq_fit hi).2
  simp; omega
theorem ksr1 (x1 : Value) (w : Int) (ms : List Value) (h : KsOK [x1] w ms) (i : Nat) (hi : i < 7) : KsRound [x1] w ms i := by
  intro B Q hB
  obtain ⟨p, hp, hs⟩ := sortO_add (kq ks7 (i : Int)) (plist [x1]) (⟨#[105, 122]⟩, w)
  rw [← plist_app] at hs
  have hl : (sortO (kq ks7 (i : Int)) (plist [x1])).length = 1 := by rw [sortO_len]; rfl
  match hx : sortO (kq ks7 (i : Int)) (plist [x1]), hl with
  | [(a1, v1)], _ =>
    rw [hx] at hs
    have hz : ∀ q ∈ [(a1, v1)], (q.1.toList == (ByteArray.mk #[105, 122]).toList) = false := fun q hq => ord_ne h.key (by rw [hx]; exact hq)
    have hp : p ≤ 1 := hp
    match p, hp with
    | 0, _ =>
      refine ⟨_, _, _, _, SK_ok _ _ _ _, loops_none _ _ _ _, rd1_0 (i_lt hi) (i_in hi) (i_get hi) (by rw [h.rx, h.wx]; rfl) (kq_fit hi).1 (i_40 hi) (h.told hi hx) h.both (h.toldY hi hs) h.strs (h.first hi hx hs) (hz (a1, v1) (by simp)) ?_⟩
      rw [i_wrap hi]
      exact hB
    | 1, _ =>
      refine ⟨_, _, _, _, SK_ok _ _ _ _, loops_none _ _ _ _, rd1_1 (i_lt hi) (i_in hi) (i_get hi) (by rw [h.rx, h.wx]; rfl) (kq_fit hi).1 (i_40 hi) (h.told hi hx) h.both (h.toldY hi hs) h.strs (h.later hi hx hs) (hz (a1, v1) (by simp)) ?_⟩
      rw [i_wrap hi]
      exact hB
theorem ksr2 (x1 x2 : Value) (w : Int) (ms : List Value) (h : KsOK [x1, x2] w ms) (i : Nat) (hi : i < 7) : KsRound [x1, x2] w ms i := by
  intro B Q hB
  obtain ⟨p, hp, hs⟩ := sortO_add (kq ks7 (i : Int)) (plist [x1, x2]) (⟨#[105, 122]⟩, w)
  rw [← plist_app] at hs
  have hl : (sortO (kq ks7 (i : Int)) (plist [x1, x2])).length = 2 := by rw [sortO_len]; rfl
  match hx : sortO (kq ks7 (i : Int)) (plist [x1, x2]), hl with
  | [(a1, v1), (a2, v2)], _ =>
    rw [hx] at hs
    have hz : ∀ q ∈ [(a1, v1), (a2, v2)], (q.1.toList == (ByteArray.mk #[105, 122]).toList) = false := fun q hq => ord_ne h.key (by rw [hx]; exact hq)
    have hp : p ≤ 2 := hp
    match p, hp with
    | 0, _ =>
      refine ⟨_, _, _, _, SK_ok _ _ _ _, loops_none _ _ _ _, rd2_0 (i_lt hi) (i_in hi) (i_get hi) (by rw [h.rx, h.wx]; rfl) (kq_fit hi).1 (i_40 hi) (h.told hi hx) h.both (h.toldY hi hs) h.strs (h.first hi hx hs) (hz (a1, v1) (by simp)) (hz (a2, v2) (by simp)) ?_⟩
      rw [i_wrap hi]
      exact hB
    | 1, _ =>
      refine ⟨_, _, _, _, SK_ok _ _ _ _, loops_none _ _ _ _, rd2_1 (i_lt hi) (i_in hi) (i_get hi) (by rw [h.rx, h.wx]; rfl) (kq_fit hi).1 (i_40 hi) (h.told hi hx) h.both (h.toldY hi hs) h.strs (h.later hi hx hs) (hz (a1, v1) (by simp)) (hz (a2, v2) (by simp)) ?_⟩
      rw [i_wrap hi]
      exact hB
    | 2, _ =>
      refine ⟨_, _, _, _, SK_ok _ _ _ _, loops_none _ _ _ _, rd2_2 (i_lt hi) (i_in hi) (i_get hi) (by rw [h.rx, h.wx]; rfl) (kq_fit hi).1 (i_40 hi) (h.told hi hx) h.both (h.toldY hi hs) h.strs (h.later hi hx hs) (hz (a1, v1) (by simp)) (hz (a2, v2) (by simp)) ?_⟩
      rw [i_wrap hi]
      exact hB
theorem ksr3 (x1 x2 x3 : Value) (w : Int) (ms : List Value) (h : KsOK [x1, x2, x3] w ms) (i : Nat) (hi : i < 7) : KsRound [x1, x2, x3] w ms i := by
  intro B Q hB
  obtain ⟨p, hp, hs⟩ := sortO_add (kq ks7 (i : Int)) (plist [x1, x2, x3]) (⟨#[105, 122]⟩, w)
  rw [← plist_app] at hs
  have hl : (sortO (kq ks7 (i : Int)) (plist [x1, x2, x3])).length = 3 := by rw [sortO_len]; rfl
  match hx : sortO (kq ks7 (i : Int)) (plist [x1, x2, x3]), hl with
  | [(a1, v1), (a2, v2), (a3, v3)], _ =>
    rw [hx] at hs
    have hz : ∀ q ∈ [(a1, v1), (a2, v2), (a3, v3)], (q.1.toList == (ByteArray.mk #[105, 122]).toList) = false := fun q hq => ord_ne h.key (by rw [hx]; exact hq)
    have hp : p ≤ 3 := hp
    match p, hp with
    | 0, _ =>
      refine ⟨_, _, _, _, SK_ok _ _ _ _, loops_none _ _ _ _, rd3_0 (i_lt hi) (i_in hi) (i_get hi) (by rw [h.rx, h.wx]; rfl) (kq_fit hi).1 (i_40 hi) (h.told hi hx) h.both (h.toldY hi hs) h.strs (h.first hi hx hs) (hz (a1, v1) (by simp)) (hz (a2, v2) (by simp)) (hz (a3, v3) (by simp)) ?_⟩
      rw [i_wrap hi]
      exact hB
    | 1, _ =>
      refine ⟨_, _, _, _, SK_ok _ _ _ _, loops_none _ _ _ _, rd3_1 (i_lt hi) (i_in hi) (i_get hi) (by rw [h.rx, h.wx]; rfl) (kq_fit hi).1 (i_40 hi) (h.told hi hx) h.both (h.toldY hi hs) h.strs (h.later hi hx hs) (hz (a1, v1) (by simp)) (hz (a2, v2) (by simp)) (hz (a3, v3) (by simp)) ?_⟩
      rw [i_wrap hi]
      exact hB
    | 2, _ =>
      refine ⟨_, _, _, _, SK_ok _ _ _ _, loops_none _ _ _ _, rd3_2 (i_lt hi) (i_in hi) (i_get hi) (by rw [h.rx, h.wx]; rfl) (kq_fit hi).1 (i_40 hi) (h.told hi hx) h.both (h.toldY hi hs) h.strs (h.later hi hx hs) (hz (a1, v1) (by simp)) (hz (a2, v2) (by simp)) (hz (a3, v3) (by simp)) ?_⟩
      rw [i_wrap hi]
      exact hB
    | 3, _ =>
      refine ⟨_, _, _, _, SK_ok _ _ _ _, loops_none _ _ _ _, rd3_3 (i_lt hi) (i_in hi) (i_get hi) (by rw [h.rx, h.wx]; rfl) (kq_fit hi).1 (i_40 hi) (h.told hi hx) h.both (h.toldY hi hs) h.strs (h.later hi hx hs) (hz (a1, v1) (by simp)) (hz (a2, v2) (by simp)) (hz (a3, v3) (by simp)) ?_⟩
      rw [i_wrap hi]
      exact hB
theorem ksr4 (x1 x2 x3 x4 : Value) (w : Int) (ms : List Value) (h : KsOK [x1, x2, x3, x4] w ms) (i : Nat) (hi : i < 7) : KsRound [x1, x2, x3, x4] w ms i := by
  intro B Q hB
  obtain ⟨p, hp, hs⟩ := sortO_add (kq ks7 (i : Int)) (plist [x1, x2, x3, x4]) (⟨#[105, 122]⟩, w)
  rw [← plist_app] at hs
  have hl : (sortO (kq ks7 (i : Int)) (plist [x1, x2, x3, x4])).length = 4 := by rw [sortO_len]; rfl
  match hx : sortO (kq ks7 (i : Int)) (plist [x1, x2, x3, x4]), hl with
  | [(a1, v1), (a2, v2), (a3, v3), (a4, v4)], _ =>
    rw [hx] at hs
    have hz : ∀ q ∈ [(a1, v1), (a2, v2), (a3, v3), (a4, v4)], (q.1.toList == (ByteArray.mk #[105, 122]).toList) = false := fun q hq => ord_ne h.key (by rw [hx]; exact hq)
    have hp : p ≤ 4 := hp
    match p, hp with
    | 0, _ =>
      refine ⟨_, _, _, _, SK_ok _ _ _ _, loops_none _ _ _ _, rd4_0 (i_lt hi) (i_in hi) (i_get hi) (by rw [h.rx, h.wx]; rfl) (kq_fit hi).1 (i_40 hi) (h.told hi hx) h.both (h.toldY hi hs) h.strs (h.first hi hx hs) (hz (a1, v1) (by simp)) (hz (a2, v2) (by simp)) (hz (a3, v3) (by simp)) (hz (a4, v4) (by simp)) ?_⟩
      rw [i_wrap hi]
      exact hB
    | 1, _ =>
      refine ⟨_, _, _, _, SK_ok _ _ _ _, loops_none _ _ _ _, rd4_1 (i_lt hi) (i_in hi) (i_get hi) (by rw [h.rx, h.wx]; rfl) (kq_fit hi).1 (i_40 hi) (h.told hi hx) h.both (h.toldY hi hs) h.strs (h.later hi hx hs) (hz (a1, v1) (by simp)) (hz (a2, v2) (by simp)) (hz (a3, v3) (by simp)) (hz (a4, v4) (by simp)) ?_⟩
      rw [i_wrap hi]
      exact hB
    | 2, _ =>
      refine ⟨_, _, _, _, SK_ok _ _ _ _, loops_none _ _ _ _, rd4_2 (i_lt hi) (i_in hi) (i_get hi) (by rw [h.rx, h.wx]; rfl) (kq_fit hi).1 (i_40 hi) (h.told hi hx) h.both (h.toldY hi hs) h.strs (h.later hi hx hs) (hz (a1, v1) (by simp)) (hz (a2, v2) (by simp)) (hz (a3, v3) (by simp)) (hz (a4, v4) (by simp)) ?_⟩
      rw [i_wrap hi]
      exact hB
    | 3, _ =>
      refine ⟨_, _, _, _, SK_ok _ _ _ _, loops_none _ _ _ _, rd4_3 (i_lt hi) (i_in hi) (i_get hi) (by rw [h.rx, h.wx]; rfl) (kq_fit hi).1 (i_40 hi) (h.told hi hx) h.both (h.toldY hi hs) h.strs (h.later hi hx hs) (hz (a1, v1) (by simp)) (hz (a2, v2) (by simp)) (hz (a3, v3) (by simp)) (hz (a4, v4) (by simp)) ?_⟩
      rw [i_wrap hi]
      exact hB
    | 4, _ =>
      refine ⟨_, _, _, _, SK_ok _ _ _ _, loops_none _ _ _ _, rd4_4 (i_lt hi) (i_in hi) (i_get hi) (by rw [h.rx, h.wx]; rfl) (kq_fit hi).1 (i_40 hi) (h.told hi hx) h.both (h.toldY hi hs) h.strs (h.later hi hx hs) (hz (a1, v1) (by simp)) (hz (a2, v2) (by simp)) (hz (a3, v3) (by simp)) (hz (a4, v4) (by simp)) ?_⟩
      rw [i_wrap hi]
      exact hB
theorem ks_round {X : List Value} {w : Int} {ms : List Value} (h : KsOK X w ms) {i : Nat} (hi : i < 7) : KsRound X w ms i := by
  have hk := h.key
  have hlen : X.length = ((plist X).map Prod.fst).length := by simp [plist]
  have h4 : (keys4.all fun s => Nat.ble 1 s.length && Nat.ble s.length 4) = true := by kernel_rfl
  have h5 := List.all_eq_true.1 h4 _ hk
  rw [Bool.and_eq_true, Nat.ble_eq, Nat.ble_eq, ← hlen] at h5
  match X, h, h5 with
  | [x1], h, _ => exact ksr1 x1 w ms h i hi
  | [x1, x2], h, _ => exact ksr2 x1 x2 w ms h i hi
  | [x1, x2, x3], h, _ => exact ksr3 x1 x2 x3 w ms h i hi
  | [x1, x2, x3, x4], h, _ => exact ksr4 x1 x2 x3 x4 w ms h i hi
  | _ :: _ :: _ :: _ :: _ :: _, _, h5 => simp at h5
theorem SK0_ok : (SK [] [] [] []).cfg.OK Tryz.prog := SK_ok [] [] [] []
theorem ks_loop {X : List Value} {w : Int} {ms : List Value} (h : KsOK X w ms) (K : AExit → List Value → AH → Prop) (hK : K (.exit 0) [] h0) : ∀ (r i : Nat), i + r = 7 →
    iterE 0 Tryz.prog 107 [4, 5, 7, 56, 57, 58] [] [] [] (oneLoop (codeOf Tryz.f3) 10) (r + 1) [fz ⟨X⟩, fz ⟨X ++ [instV (⟨#[105, 122]⟩, w)]⟩, fz ⟨ms⟩, fz ⟨ks7⟩, .int .i64 7, .int .i64 (i : Int)] h0 K
  | 0, i, hi => by
    have : i = 7 := by omega
    subst this
    exact ⟨_, _, _, _, SK0_ok, loops_none _ _ _ _, (loe _ _ _ _ _ _ _ _).mpr (pick_f rfl hK)⟩
  | r + 1, i, hi => ks_round h (show i < 7 by omega) _ _ (ks_loop h K hK r (i + 1) (by omega))
theorem ks_loopS {X : List Value} {w : Int} {ms : List Value} (h : KsOK X w ms) : LSpec 0 Tryz.prog 107 (oneLoop (codeOf Tryz.f3) 10)
    (hookLS 0 107 [4, 5, 7, 56, 57, 58] [] [] (fun vals g K => (vals = [fz ⟨X⟩, fz ⟨X ++ [instV (⟨#[105, 122]⟩, w)]⟩, fz ⟨ms⟩, fz ⟨ks7⟩, .int .i64 7, .int .i64 0] ∧ g = h0) ∧ K (.exit 0) [] h0)) := by
  refine hookE_ok (sameX := []) mixed (by decide) ?_
  rintro vals g K ⟨⟨rfl, rfl⟩, hK⟩
  exact ⟨8, ks_loop h K hK 7 0 rfl⟩
end Go.Proofs.YtbkccelgffopcaaGreatDoor
