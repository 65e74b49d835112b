/-
  Bytes: bodies in chunks.
-/
import Derived.Test.YtjphemllikflpaaGreatDoorByC
namespace Go.Proofs.YtjphemllikflpaaGreatDoor
open Go.Ev Go.RowKit RecLaw PathLaw QueryLaw BytesLaw

noncomputable def SCk : SC := ⟨idn, spFi, true, true⟩
theorem SCk_ok : SCk.cfg.OK Tryz.prog := spFi_ok.cfg
def mnI (k : Int) (s : ByteArray) : Int := if k > (s.size : Int) then (s.size : Int) else k
noncomputable def ckR (s : ByteArray) (k : Int) (wr : ByteArray → ByteArray → Prop) (fin : Prop) : Prop :=
  bif decide ((s.size : Int) > 0) then bif decide (1 ≤ mnI k s) && decide (mnI k s ≤ 30) && true then
    bif Nat.ble ((bl (hexN (mnI k s).toNat)).size + (ByteArray.mk #[13, 10]).size) 1000000 then bif decide (0 ≤ mnI k s) && decide (mnI k s ≤ (s.size : Int)) then
      bif Nat.ble ((bl (hexN (mnI k s).toNat) ++ ⟨#[13, 10]⟩).size + (s.extract 0 (mnI k s).toNat).size) 1000000 then
        bif Nat.ble ((bl (hexN (mnI k s).toNat) ++ ⟨#[13, 10]⟩ ++ s.extract 0 (mnI k s).toNat).size + (ByteArray.mk #[13, 10]).size) 1000000 then
          wr (bl (hexN (mnI k s).toNat) ++ ⟨#[13, 10]⟩ ++ s.extract 0 (mnI k s).toNat ++ ⟨#[13, 10]⟩) (s.extract (mnI k s).toNat (s.size : Int).toNat)
        else False else False else False else False else False
  else fin
theorem ckr0 (s : ByteArray) (k : Int) (B : List Value → AH → Prop) (Q : AExit → List Value → AH → Prop) : once 0 Tryz.prog SCk [] noHooks 900 34 [0, 1, 6] [1] [4, 5, 6] [1] (oneLoop (codeOf Tryz.f7) 6) [.string s, .int .i64 k, .pointer (some ⟨0, 0, none⟩)] nH0 B Q =
    ckR s k (fun w r => wr0 w fun cs n => bif decide (0 ≤ mnI k s) && decide (mnI k s ≤ (s.size : Int)) && decide ((s.size : Int) ≤ (s.size : Int)) then NoNames (.cells ⟨cs⟩ 5 (0, 0)) ∧ B [.string r, .int .i64 k, .pointer (some ⟨0, 0, none⟩)] (nH1 cs n) else False) (Q (.exit 0) [anyV, anyV, .pointer (some ⟨0, 0, none⟩)] nH0) := by kernel_rfl
theorem ckr1 (s : ByteArray) (k : Int) (cs : List Value) (m : Nat) (B : List Value → AH → Prop) (Q : AExit → List Value → AH → Prop) : once 0 Tryz.prog SCk [] noHooks 900 34 [0, 1, 6] [1] [4, 5, 6] [1] (oneLoop (codeOf Tryz.f7) 6) [.string s, .int .i64 k, .pointer (some ⟨0, 0, none⟩)] (nH1 cs m) B Q =
    ckR s k (fun w r => wrT cs m w fun cs n => bif decide (0 ≤ mnI k s) && decide (mnI k s ≤ (s.size : Int)) && decide ((s.size : Int) ≤ (s.size : Int)) then NoNames (.cells ⟨cs⟩ 5 (0, 0)) ∧ B [.string r, .int .i64 k, .pointer (some ⟨0, 0, none⟩)] (nH1 cs n) else False) (NoNames (.cells ⟨cs⟩ 5 (0, 0)) ∧ Q (.exit 0) [anyV, anyV, .pointer (some ⟨0, 0, none⟩)] (nH1 cs m)) := by kernel_rfl
theorem nH_ne {l : Bs} (h : l ≠ []) : nH l = nH1 (l.map u8V) l.length := by
  cases l with
  | nil => exact absurd rfl h
  | cons a l => rfl
theorem chB_ne (c : Bs) : chB c ≠ [] := by unfold chB; simp
theorem chB_len {c : Bs} (h : c.length ≤ 30) : (chB c).length ≤ c.length + 6 := by
  have := hexN_len c.length (by omega)
  unfold chB
  simp only [List.length_append, List.length_cons, List.length_nil]
  omega
theorem mnI_nat (k : Nat) (b : Bs) : mnI (k : Int) (bl b) = ((b.take k).length : Int) := by
  unfold mnI
  rw [bl_size, List.length_take]
  split <;> omega
theorem drop_take_len (k : Nat) (b : Bs) : b.drop (b.take k).length = b.drop k := by
  rw [List.length_take]
  by_cases h : k ≤ b.length
  · rw [Nat.min_eq_left h]
  · rw [Nat.min_eq_right (by omega), List.drop_of_length_le (Nat.le_refl _), List.drop_of_length_le (by omega)]
theorem ckR_ok {b : Bs} {k : Nat} (hk : 1 ≤ k) (hk2 : k ≤ 30) (hb : b.length ≤ 20000) {wr : ByteArray → ByteArray → Prop} {fin : Prop} (h1 : b ≠ [] → wr (bl (chB (b.take k))) (bl (b.drop k))) (h0 : b = [] → fin) : ckR (bl b) (k : Int) wr fin := by
  unfold ckR
  rw [mnI_nat, bl_size]
  by_cases hn : b = []
  · subst hn; exact pick_f rfl (h0 rfl)
  · have hp := List.length_pos_iff.2 hn
    have hc1 : 1 ≤ (b.take k).length := by rw [List.length_take]; omega
    have hc2 : (b.take k).length ≤ 30 := by rw [List.length_take]; omega
    have hc3 : (b.take k).length ≤ b.length := by rw [List.length_take]; omega
    have hx := hexN_len (b.take k).length (by omega)
    have w := h1 hn
    have e1 : (bl b).extract 0 (b.take k).length = bl (b.take k) := by
      rw [bl_cut _ _ _ hc3, List.drop_zero]
      congr 1
      rw [List.length_take]
      by_cases h : k ≤ b.length
      · rw [Nat.min_eq_left h]
      · rw [Nat.min_eq_right (by omega), List.take_length, List.take_of_length_le (by omega)]
    have e2 : (bl b).extract (b.take k).length b.length = bl (b.drop k) := by
      rw [bl_cut _ _ _ (Nat.le_refl _), List.take_length, drop_take_len]
    have z1 : (ByteArray.mk #[13, 10]) = bl [13, 10] := rfl
    have e3 : bl (hexN (b.take k).length) ++ bl [13, 10] ++ bl (b.take k) ++ bl [13, 10] = bl (chB (b.take k)) := by
      rw [bl_app, bl_app, bl_app]
      congr 1
      unfold chB
      simp
    simp only [Int.toNat_natCast, e1, e2, z1, e3]
    refine pick_t (decide_eq_true (by omega)) (need_mk (by simp; omega) (need_mk ?_ (need_mk (by simp; omega) (need_mk ?_ (need_mk ?_ w)))))
    · rw [bl_size, bl_size]; exact Nat.ble_eq_true_of_le (by simp only [List.length_append, List.length_cons, List.length_nil]; omega)
    · rw [bl_app, bl_size, bl_size]; exact Nat.ble_eq_true_of_le (by simp only [List.length_append, List.length_cons, List.length_nil]; omega)
    · rw [bl_app, bl_app, bl_size, bl_size]; exact Nat.ble_eq_true_of_le (by simp only [List.length_append, List.length_cons, List.length_nil]; omega)
theorem ck_it (n : Nat) {vals : List Value} {h : AH} {K : AExit → List Value → AH → Prop} (hx : once 0 Tryz.prog SCk [] noHooks 900 34 [0, 1, 6] [1] [4, 5, 6] [1] (oneLoop (codeOf Tryz.f7) 6) vals h (fun v g => iter 0 Tryz.prog SCk [] noHooks 900 34 [0, 1, 6] [1] [4, 5, 6] [1] (oneLoop (codeOf Tryz.f7) 6) n v g K) K) : iter 0 Tryz.prog SCk [] noHooks 900 34 [0, 1, 6] [1] [4, 5, 6] [1] (oneLoop (codeOf Tryz.f7) 6) (n + 1) vals h K := hx
theorem ck_step {b D : Bs} {k : Nat} (hk : 1 ≤ k) (hk2 : k ≤ 30) (hb : b.length ≤ 20000) (hD : D.length ≤ 40000) (B : List Value → AH → Prop) (Q : AExit → List Value → AH → Prop)
    (hB : b ≠ [] → B [.string (bl (b.drop k)), .int .i64 (k : Int), .pointer (some ⟨0, 0, none⟩)] (nH (D ++ chB (b.take k)))) (hQ : b = [] → Q (.exit 0) [anyV, anyV, .pointer (some ⟨0, 0, none⟩)] (nH D)) : once 0 Tryz.prog SCk [] noHooks 900 34 [0, 1, 6] [1] [4, 5, 6] [1] (oneLoop (codeOf Tryz.f7) 6) [.string (bl b), .int .i64 (k : Int), .pointer (some ⟨0, 0, none⟩)] (nH D) B Q := by
  have hc2 : (b.take k).length ≤ 30 := by rw [List.length_take]; omega
  have hl := chB_len hc2
  have hm : (decide (0 ≤ mnI (k : Int) (bl b)) && decide (mnI (k : Int) (bl b) ≤ ((bl b).size : Int)) && decide (((bl b).size : Int) ≤ ((bl b).size : Int))) = true := by
    rw [mnI_nat, bl_size, List.length_take]
    simp
    omega
  cases D with
  | nil =>
    refine (ckr0 _ _ B Q).mpr (ckR_ok hk hk2 hb (fun hn => wr0_ok (chB_ne _) (by omega) (need_mk hm ⟨nnU _ _ _, ?_⟩)) hQ)
    have := hB hn
    rw [List.nil_append, nH_ne (chB_ne _)] at this
    exact this
  | cons d D =>
    refine (ckr1 _ _ _ _ B Q).mpr (ckR_ok hk hk2 hb (fun hn => wrT_ok (chB_ne _) (by omega) (by simp at hD ⊢; omega) (need_mk hm ⟨nnU _ _ _, ?_⟩)) fun e => ⟨nnU _ _ _, hQ e⟩)
    exact hB hn
theorem ck_loop (K : AExit → List Value → AH → Prop) {k : Nat} (hk : 1 ≤ k) (hk2 : k ≤ 30) : ∀ (m : Nat) (b D : Bs), b.length ≤ m → m ≤ 2000 → D.length + 7 * b.length ≤ 40000 → K (.exit 0) [anyV, anyV, .pointer (some ⟨0, 0, none⟩)] (nH (D ++ (chunks k b).flatMap chB)) → iter 0 Tryz.prog SCk [] noHooks 900 34 [0, 1, 6] [1] [4, 5, 6] [1] (oneLoop (codeOf Tryz.f7) 6) (m + 1) [.string (bl b), .int .i64 (k : Int), .pointer (some ⟨0, 0, none⟩)] (nH D) K
  | m, b, D, hb, hm, hD, hK => by
    have hc2 : (b.take k).length ≤ 30 := by rw [List.length_take]; omega
    have hl := chB_len hc2
    refine ck_it m (ck_step hk hk2 (by omega) (by omega) _ _ (fun hn => ?_) (fun e => ?_))
    · have hp := List.length_pos_iff.2 hn
      have hc1 : 1 ≤ (b.take k).length := by rw [List.length_take]; omega
      have hc3 : (b.take k).length + (b.drop k).length = b.length := by rw [← List.length_append, List.take_append_drop]
      rw [chunks_cons hk hn, List.flatMap_cons, ← List.append_assoc] at hK
      match m, hb with
      | m + 1, hb => exact ck_loop K hk hk2 m (b.drop k) _ (by omega) (by omega) (by rw [List.length_append]; omega) hK
      | 0, hb => omega
    · subst e
      rw [show chunks k [] = [] from rfl, List.flatMap_nil, List.append_nil] at hK
      exact hK
noncomputable def strT (cs : List Value) (k : Nat) (K : ByteArray → Prop) : Prop :=
  bif Nat.ble 1 k then bif decide (0 < (k : Int)) && decide ((k : Int) ≤ 9223372036854775807) && true && true && true && (0 + (k : Int).toNat).ble (Array.mk cs).size && (List.take (k : Int).toNat (List.drop 0 (Array.mk cs).toList)).all isByte then
    K ⟨⟨List.map toByte (List.take (k : Int).toNat (List.drop 0 (Array.mk cs).toList))⟩⟩ else False else False
def endBA : ByteArray := ⟨#[48, 13, 10, 13, 10]⟩
noncomputable def ckF (s : ByteArray) (k : Int) (Q : Value → Prop) (X : Prop) : Prop :=
  bif decide (k < 1) then Q (.tuple ⟨[.string ⟨#[]⟩, .int .i64 1]⟩) else bif decide (k > 20000) then Q (.tuple ⟨[.string ⟨#[]⟩, .int .i64 1]⟩) else bif decide ((s.size : Int) > 20000) then Q (.tuple ⟨[.string ⟨#[]⟩, .int .i64 2]⟩) else X
theorem ckf0 (s : ByteArray) (k : Int) (C : List Value → AH → Prop) (Q : Value → Prop) : tfn Tryz.prog SCk [] (hook1 6 (hookLS 0 34 [0, 1, 6] [1] [4, 5, 6] (fun vals h K => C vals h ∧ K (.exit 0) [anyV, anyV, .pointer (some ⟨0, 0, none⟩)] nH0))) 900 [] Tryz.f7 [.string s, .int .i64 k] h0 (fun v _ => Q v) =
    ckF s k Q (C [.string s, .int .i64 k, .pointer (some ⟨0, 0, none⟩)] nH0 ∧ Q (.tuple ⟨[.string endBA, .int .i64 0]⟩)) := by kernel_rfl
theorem ckf1 (s : ByteArray) (k : Int) (cs : List Value) (n : Nat) (C : List Value → AH → Prop) (Q : Value → Prop) : tfn Tryz.prog SCk [] (hook1 6 (hookLS 0 34 [0, 1, 6] [1] [4, 5, 6] (fun vals h K => C vals h ∧ K (.exit 0) [anyV, anyV, .pointer (some ⟨0, 0, none⟩)] (nH1 cs n)))) 900 [] Tryz.f7 [.string s, .int .i64 k] h0 (fun v _ => Q v) =
    ckF s k Q (C [.string s, .int .i64 k, .pointer (some ⟨0, 0, none⟩)] nH0 ∧ wrT cs n endBA fun cs n => strT cs n fun v => Q (.tuple ⟨[.string v, .int .i64 0]⟩)) := by kernel_rfl
theorem oneCK : (loopAt (codeOf Tryz.f7) 6).length = 1 := by kernel_rfl
theorem someCK : Tryz.f7.body.isSome = true := by kernel_rfl
theorem chunks_len {k : Nat} (hk : 1 ≤ k) (hk2 : k ≤ 30) : ∀ (m : Nat) (b : Bs), b.length ≤ m → ((chunks k b).flatMap chB).length ≤ 7 * b.length
  | m, b, hb => by
    by_cases hn : b = []
    · subst hn; exact Nat.zero_le _
    · have hp := List.length_pos_iff.2 hn
      have hc2 : (b.take k).length ≤ 30 := by rw [List.length_take]; omega
      have hl := chB_len hc2
      have hc1 : 1 ≤ (b.take k).length := by rw [List.length_take]; omega
      have hc3 : (b.take k).length + (b.drop k).length = b.length := by rw [← List.length_append, List.take_append_drop]
      rw [chunks_cons hk hn, List.flatMap_cons, List.length_append]
      match m, hb with
      | m + 1, hb =>
        have := chunks_len hk hk2 m (b.drop k) (by omega)
        omega
      | 0, hb => omega
theorem strT_ok {r : Bs} (hr : r ≠ []) (hl : r.length ≤ 100000000) {K : ByteArray → Prop} (hK : K (bl r)) : strT (r.map u8V) r.length K :=
  bd_ok (r := r) hr hl (Q := fun v => K (toStr v)) (f := fun s => .string s) hK
theorem ckF_mk {b : Bs} {k : Nat} (hk : 1 ≤ k) (hk2 : k ≤ 30) (hb : b.length ≤ 2000) {Q : Value → Prop} {X : Prop} (hX : X) : ckF (bl b) (k : Int) Q X :=
  pick_f (decide_eq_false (by omega)) (pick_f (decide_eq_false (by omega)) (pick_f (decide_eq_false (by rw [bl_size]; omega)) hX))
theorem ck_fn {b : Bs} {k : Nat} (hk : 1 ≤ k) (hk2 : k ≤ 30) (hb : b.length ≤ 2000) : FnOK 0 Tryz.prog 7 ⟨[.string (bl b), .int .i64 (k : Int)]⟩ h0 (fun v _ => v = .tuple ⟨[.string (bl (chkT (chunks k b))), .int .i64 0]⟩) := by
  have hlen := chunks_len hk hk2 b.length b (Nat.le_refl _)
  have key : ∀ (cl : (AExit → List Value → AH → Prop) → Prop), (∀ K, cl K → K (.exit 0) [anyV, anyV, .pointer (some ⟨0, 0, none⟩)] (nH ((chunks k b).flatMap chB))) →
      LSpec 0 Tryz.prog 34 (oneLoop (codeOf Tryz.f7) 6) (hookLS 0 34 [0, 1, 6] [1] [4, 5, 6] (fun vals h K => (vals = [.string (bl b), .int .i64 (k : Int), .pointer (some ⟨0, 0, none⟩)] ∧ h = nH0) ∧ cl K)) := by
    intro cl hcl
    refine hook_ok (G := []) (L := noHooks) (f := 900) (sameX := [1]) SCk_ok mixed (by decide) (loops_none _ _ _ _) ?_
    rintro vals h K ⟨⟨rfl, rfl⟩, hK⟩
    exact ⟨_, ck_loop K hk hk2 b.length b [] (Nat.le_refl _) (by omega) (by simp; omega) (hcl K hK)⟩
  have hE : chkT (chunks k b) = (chunks k b).flatMap chB ++ endB := rfl
  cases hn : (chunks k b).flatMap chB with
  | nil =>
    refine FnOK.ttree SCk_ok mixed Tryz.func7 someCK (loops_one oneCK (key (fun K => K (.exit 0) [anyV, anyV, .pointer (some ⟨0, 0, none⟩)] nH0) fun K hK => by rw [hn]; exact hK)) (ckf0 (bl b) (k : Int) _ (fun v => v = .tuple ⟨[.string (bl (chkT (chunks k b))), .int .i64 0]⟩)) ?_
    exact ckF_mk hk hk2 hb ⟨⟨rfl, rfl⟩, by rw [hE, hn]; rfl⟩
  | cons c r =>
    refine FnOK.ttree SCk_ok mixed Tryz.func7 someCK (loops_one oneCK (key (fun K => K (.exit 0) [anyV, anyV, .pointer (some ⟨0, 0, none⟩)] (nH1 ((c :: r).map u8V) (c :: r).length)) fun K hK => by rw [hn]; exact hK)) (ckf1 (bl b) (k : Int) ((c :: r).map u8V) (c :: r).length _ (fun v => v = .tuple ⟨[.string (bl (chkT (chunks k b))), .int .i64 0]⟩)) ?_
    rw [hn] at hlen
    refine ckF_mk hk hk2 hb ⟨⟨rfl, rfl⟩, wrT_ok (b := c :: r) (l := endB) (by simp [endB]) (by simp [endB]) (by omega) (strT_ok (by simp) (by rw [List.length_append]; simp [endB] at hlen ⊢; omega) ?_)⟩
    rw [hE, hn]
end Go.Proofs.YtjphemllikflpaaGreatDoor
