/-
  Queries: words that are read and words that are written, for all strings.
-/
import Derived.Test.YtnaeehnkabojdaaGreatDoorQuH
namespace Go.Proofs.YtnaeehnkabojdaaGreatDoor
open Go.Ev Go.RowKit RecLaw PathLaw QueryLaw

/-! decoded -/
noncomputable def SD1 : SC := ⟨idn, spOr spIh spPu, true, true⟩
theorem SD1_ok : SD1.cfg.OK Tryz.prog := (spIh_ok.or spPu_ok).cfg
def inR (s : ByteArray) (i : Int) : Bool := decide (0 ≤ i) && decide (i < (s.size : Int))
noncomputable def dcR (s : ByteArray) (i : Int) (wr : List Value → Nat → Int → Prop) (bad fin : Prop) : Prop :=
  bif decide (i < (s.size : Int)) then bif decide (0 ≤ i) && decide (i < (s.size : Int)) then
    bif bT s i == 43 then wr [.int .u8 32] 1 (W (i + 1)) else bif decide (0 ≤ i) && decide (i < (s.size : Int)) then
    bif bT s i != 37 then bif decide (0 ≤ i) && decide (i < (s.size : Int)) then wr [.int .u8 (bT s i)] 1 (W (i + 1)) else False
    else bif decide (W (i + 2) < (s.size : Int)) then bif decide (0 ≤ W (i + 1)) && decide (W (i + 1) < (s.size : Int)) then bif decide (bT s (W (i + 1)) < 256) then
      bif isHexB (byI (bT s (W (i + 1)))) then bif decide (0 ≤ W (i + 2)) && decide (W (i + 2) < (s.size : Int)) then bif decide (bT s (W (i + 2)) < 256) then
        bif !isHexB (byI (bT s (W (i + 2)))) then bad else
          bif decide (0 ≤ W (i + 1)) && decide (W (i + 1) ≤ W (i + 3)) && decide (W (i + 3) ≤ (s.size : Int)) then bif hx2 (s.extract (W (i + 1)).toNat (W (i + 3)).toNat) && true && true then
            wr [.int .u8 (W8 (un2 (s.extract (W (i + 1)).toNat (W (i + 3)).toNat)))] 1 (W (W (i + 2) + 1))
          else False else False
      else False else False
      else bad else False else False
    else bad
  else False else False else fin
theorem dcr0 (s : ByteArray) (i : Int) (B : List Value → AH → Prop) (Q : AExit → List Value → AH → Prop) : once 0 Tryz.prog SD1 [] noHooks 600 44 [0, 1, 6, 7] [1] [4, 5, 6] [1] (oneLoop (codeOf Tryz.f30) 3) [.string s, .bool true, .pointer (some ⟨0, 0, none⟩), .int .i64 i] nH0 B Q =
    dcR s i (fun vs n j => NoNames (.cells ⟨vs⟩ 5 (0, 0)) ∧ B [.string s, .bool true, .pointer (some ⟨0, 0, none⟩), .int .i64 j] (nH1 vs n)) (Q .ret [.string ⟨#[]⟩, .bool false, .pointer (some ⟨0, 0, none⟩)] nH0) (Q (.exit 0) [anyV, anyV, .pointer (some ⟨0, 0, none⟩)] nH0) := by kernel_rfl
theorem dcr1 (s : ByteArray) (i : Int) (cs : List Value) (k : Nat) (B : List Value → AH → Prop) (Q : AExit → List Value → AH → Prop) : once 0 Tryz.prog SD1 [] noHooks 600 44 [0, 1, 6, 7] [1] [4, 5, 6] [1] (oneLoop (codeOf Tryz.f30) 3) [.string s, .bool true, .pointer (some ⟨0, 0, none⟩), .int .i64 i] (nH1 cs k) B Q =
    dcR s i (fun vs n j => apT cs k n vs fun cs k => NoNames (.cells ⟨cs⟩ 5 (0, 0)) ∧ B [.string s, .bool true, .pointer (some ⟨0, 0, none⟩), .int .i64 j] (nH1 cs k)) (NoNames (.cells ⟨cs⟩ 5 (0, 0)) ∧ Q .ret [.string ⟨#[]⟩, .bool false, .pointer (some ⟨0, 0, none⟩)] (nH1 cs k)) (NoNames (.cells ⟨cs⟩ 5 (0, 0)) ∧ Q (.exit 0) [anyV, anyV, .pointer (some ⟨0, 0, none⟩)] (nH1 cs k)) := by kernel_rfl
set_option maxRecDepth 20000 in
theorem dcR_mono {s : ByteArray} {i : Int} {wr wr' : List Value → Nat → Int → Prop} {bad bad' fin fin' : Prop} (hw : ∀ vs n j, wr vs n j → wr' vs n j) (hb : bad → bad') (hf : fin → fin') (h : dcR s i wr bad fin) : dcR s i wr' bad' fin' := by
  unfold dcR at h ⊢
  revert h
  repeat' (first | refine cm ?_ ?_ | exact hw _ _ _ | exact hb | exact hf | exact id)
theorem dc_step (s : ByteArray) (i : Int) (D : List UInt8) (hl : D.length ≤ 90000) (B : List Value → AH → Prop) (Q : AExit → List Value → AH → Prop)
    (h : dcR s i (fun vs n j => ∃ bs : List UInt8, vs = bs.map u8V ∧ n = bs.length ∧ bs ≠ [] ∧ bs.length ≤ 10 ∧ B [.string s, .bool true, .pointer (some ⟨0, 0, none⟩), .int .i64 j] (nH (D ++ bs))) (Q .ret [.string ⟨#[]⟩, .bool false, .pointer (some ⟨0, 0, none⟩)] (nH D)) (Q (.exit 0) [anyV, anyV, .pointer (some ⟨0, 0, none⟩)] (nH D))) :
    once 0 Tryz.prog SD1 [] noHooks 600 44 [0, 1, 6, 7] [1] [4, 5, 6] [1] (oneLoop (codeOf Tryz.f30) 3) [.string s, .bool true, .pointer (some ⟨0, 0, none⟩), .int .i64 i] (nH D) B Q := by
  cases D with
  | nil =>
    refine (dcr0 s i B Q).mpr (dcR_mono ?_ id id h)
    rintro vs n j ⟨bs, rfl, rfl, h3, _, hB⟩
    refine ⟨nnU _ _ _, ?_⟩
    cases bs with
    | nil => exact absurd rfl h3
    | cons b l => exact hB
  | cons d D =>
    refine (dcr1 s i _ _ B Q).mpr (dcR_mono ?_ (fun q => ⟨nnU _ _ _, q⟩) (fun q => ⟨nnU _ _ _, q⟩) h)
    rintro vs n j ⟨bs, h1, h2, h3, h4, hB⟩
    exact apT_ok (D := d :: D) h1 h2 h3 (by omega) (by omega) ⟨nnU _ _ _, hB⟩
theorem eq43 {c : UInt8} : ((c.toNat : Int) == 43) = decide (c = 43) := by
  have := all_u8 (p := fun c => ((c.toNat : Int) == 43) == decide (c = 43)) (by decide +kernel) c
  exact eq_of_beq this
theorem dc_it (n : Nat) {vals : List Value} {h : AH} {K : AExit → List Value → AH → Prop} (hx : once 0 Tryz.prog SD1 [] noHooks 600 44 [0, 1, 6, 7] [1] [4, 5, 6] [1] (oneLoop (codeOf Tryz.f30) 3) vals h (fun v g => iter 0 Tryz.prog SD1 [] noHooks 600 44 [0, 1, 6, 7] [1] [4, 5, 6] [1] (oneLoop (codeOf Tryz.f30) 3) n v g K) K) : iter 0 Tryz.prog SD1 [] noHooks 600 44 [0, 1, 6, 7] [1] [4, 5, 6] [1] (oneLoop (codeOf Tryz.f30) 3) (n + 1) vals h K := hx
set_option maxRecDepth 20000 in
theorem dc_loop (K : AExit → List Value → AH → Prop) : ∀ (m : Nat) (l pre D : List UInt8), l.length ≤ m → (pre ++ l).length ≤ 20000 → D.length ≤ pre.length →
    (∀ r, dq l = some r → K (.exit 0) [anyV, anyV, .pointer (some ⟨0, 0, none⟩)] (nH (D ++ r))) → (dq l = none → ∀ o, K .ret [.string ⟨#[]⟩, .bool false, .pointer (some ⟨0, 0, none⟩)] (nH o)) → iter 0 Tryz.prog SD1 [] noHooks 600 44 [0, 1, 6, 7] [1] [4, 5, 6] [1] (oneLoop (codeOf Tryz.f30) 3) (m + 1) [.string (bl (pre ++ l)), .bool true, .pointer (some ⟨0, 0, none⟩), .int .i64 ((pre.length : Nat) : Int)] (nH D) K := by
  intro m
  induction m with
  | zero =>
    intro l pre D h1 h2 h3 h4 h5
    have : l = [] := List.length_eq_zero_iff.1 (by omega)
    subst this
    refine dc_it 0 (dc_step _ _ _ (by simp at h2; omega) _ _ ?_)
    refine pick_f (decide_eq_false (by rw [bl_size]; simp)) ?_
    simpa using h4 [] rfl
  | succ m ih =>
    intro l pre D h1 h2 h3 h4 h5
    refine dc_it (m + 1) (dc_step _ _ _ (by rw [List.length_append] at h2; omega) _ _ ?_)
    have hsz : (bl (pre ++ l)).size = pre.length + l.length := by rw [bl_size, List.length_append]
    rw [List.length_append] at h2
    cases l with
    | nil =>
      refine pick_f (decide_eq_false (by rw [hsz]; simp)) ?_
      simpa using h4 [] rfl
    | cons c l =>
      simp only [List.length_cons] at hsz h1 h2
      have b0 : bT (bl (pre ++ c :: l)) ((pre.length : Nat) : Int) = (c.toNat : Int) := bT_at 0 rfl
      have hin : (decide (0 ≤ ((pre.length : Nat) : Int)) && decide (((pre.length : Nat) : Int) < ((bl (pre ++ c :: l)).size : Int))) = true := by rw [hsz]; simp; omega
      refine pick_t (decide_eq_true (by rw [hsz]; omega)) (need_mk hin ?_)
      rw [b0, ne37, eq43]
      have w1 : W ((pre.length : Int) + 1) = ((pre.length + 1 : Nat) : Int) := w_nat 1 (by omega) (by omega)
      have one : c ≠ 37 → ∀ u : UInt8, plusB c = u → ∃ bs : List UInt8, [Value.int .u8 (u.toNat : Int)] = bs.map u8V ∧ 1 = bs.length ∧ bs ≠ [] ∧ bs.length ≤ 10 ∧ iter 0 Tryz.prog SD1 [] noHooks 600 44 [0, 1, 6, 7] [1] [4, 5, 6] [1] (oneLoop (codeOf Tryz.f30) 3) (m + 1) [.string (bl (pre ++ c :: l)), .bool true, .pointer (some ⟨0, 0, none⟩), .int .i64 (W ((pre.length : Int) + 1))] (nH (D ++ bs)) K := by
        intro hc u hu
        refine ⟨[u], rfl, rfl, by simp, by simp, ?_⟩
        have hpre : pre ++ c :: l = (pre ++ [c]) ++ l := by simp
        have hpl : (pre.length + 1 : Nat) = (pre ++ [c]).length := by simp
        rw [w1, hpre, hpl]
        have hn := dq_cons hc l
        refine ih l (pre ++ [c]) (D ++ [u]) (by omega) (by simp; omega) (by simp; omega) (fun q hq => ?_) (fun hq o => ?_)
        · have := h4 (u :: q) (by rw [hn, hq, hu]; rfl)
          rw [List.append_assoc]; exact this
        · exact h5 (by rw [hn, hq]; rfl) o
      by_cases hp : c = 43
      · exact pick_t (decide_eq_true hp) (one (by rw [hp]; decide) 32 (by rw [hp]; rfl))
      refine pick_f (decide_eq_false hp) (need_mk hin ?_)
      by_cases hc : c = 37
      · refine pick_f (by simp [hc]) ?_
        have w2 : W ((pre.length : Int) + 2) = ((pre.length + 2 : Nat) : Int) := w_nat 2 (by omega) (by omega)
        have w3 : W ((pre.length : Int) + 3) = ((pre.length + 3 : Nat) : Int) := w_nat 3 (by omega) (by omega)
        clear one
        rw [w1, w2, w3]
        subst hc
        match l, hsz, h1, h2, h4, h5 with
        | [], hsz, _, _, _, h5 => exact pick_f (decide_eq_false (by rw [hsz]; simp <;> omega)) (h5 rfl _)
        | [a], hsz, _, _, _, h5 => exact pick_f (decide_eq_false (by rw [hsz]; simp <;> omega)) (h5 (dq_short (by simp)) _)
        | a :: b :: r, hsz, h1, h2, h4, h5 =>
          simp only [List.length_cons] at hsz h1 h2
          have b1 : bT (bl (pre ++ 37 :: a :: b :: r)) ((pre.length + 1 : Nat) : Int) = (a.toNat : Int) := bT_at 1 rfl
          have b2 : bT (bl (pre ++ 37 :: a :: b :: r)) ((pre.length + 2 : Nat) : Int) = (b.toNat : Int) := bT_at 2 rfl
          have hx : (bl (pre ++ 37 :: a :: b :: r)).extract ((pre.length + 1 : Nat) : Int).toNat ((pre.length + 3 : Nat) : Int).toNat = bl [a, b] := by
            show (bl (pre ++ 37 :: a :: b :: r)).extract (pre.length + 1) (pre.length + 3) = _
            rw [bl_cut _ _ _ (by simp)]
            congr 1
            rw [show pre ++ 37 :: a :: b :: r = (pre ++ [37]) ++ ([a, b] ++ r) by simp]
            rw [List.take_append, List.take_of_length_le (by simp), List.drop_append, List.drop_of_length_le (by simp)]
            simp
          have wz : W (((pre.length + 2 : Nat) : Int) + 1) = ((pre.length + 3 : Nat) : Int) := w_nat 1 (by omega) (by omega)
          rw [b1, b2, hx, wz, byI_of, byI_of]
          refine pick_t (decide_eq_true (by rw [hsz]; omega)) (need_mk (by rw [hsz]; simp; omega) (need_mk (u8_lt a) ?_))
          cases ha : isHexB a with
          | false => exact h5 (dq_bad r (by rw [ha]; rfl)) _
          | true =>
            refine need_mk (by rw [hsz]; simp; omega) (need_mk (u8_lt b) ?_)
            cases hb : isHexB b with
            | false => exact h5 (dq_bad r (by rw [hb, ha]; rfl)) _
            | true =>
              have hn := dq_unit (a := a) (b := b) r (by rw [ha, hb]; rfl)
              have hu : un2 (bl [a, b]) = ((unitB a b).toNat : Int) := rfl
              have h2x : hx2 (bl [a, b]) = true := by
                have : hx2 (bl [a, b]) = (isHexB a && isHexB b) := rfl
                rw [this, ha, hb]; rfl
              rw [hu, w8_id, h2x]
              refine need_mk (by rw [hsz]; simp; omega) (need_mk rfl ⟨[unitB a b], rfl, rfl, by simp, by simp, ?_⟩)
              have hpre : pre ++ 37 :: a :: b :: r = (pre ++ [37, a, b]) ++ r := by simp
              have hpl : (pre.length + 3 : Nat) = (pre ++ [37, a, b]).length := by simp
              rw [hpre, hpl]
              refine ih r (pre ++ [37, a, b]) (D ++ [unitB a b]) (by omega) (by simp; omega) (by simp; omega) (fun q hq => ?_) (fun hq o => ?_)
              · have := h4 (unitB a b :: q) (by rw [hn, hq]; rfl)
                rw [List.append_assoc]; exact this
              · exact h5 (by rw [hn, hq]; rfl) o
      · refine pick_t (decide_eq_true hc) (need_mk hin ?_)
        exact one hc c (by unfold plusB; rw [if_neg hp])
theorem oneDC : (loopAt (codeOf Tryz.f30) 3).length = 1 := by kernel_rfl
theorem someDC : Tryz.f30.body.isSome = true := by kernel_rfl
theorem dcf0 (s : ByteArray) (C : List Value → AH → Prop) (Q : Value → Prop) : tfn Tryz.prog SD1 [] (hook1 3 (hookLS 0 44 [0, 1, 6, 7] [1] [4, 5, 6] (fun vals h K => C vals h ∧ K (.exit 0) [anyV, anyV, .pointer (some ⟨0, 0, none⟩)] nH0))) 600 [] Tryz.f30 [.string s, .bool true] h0 (fun v _ => Q v) =
    (C [.string s, .bool true, .pointer (some ⟨0, 0, none⟩), .int .i64 0] nH0 ∧ Q (.tuple ⟨[.string ⟨#[]⟩, .bool true]⟩)) := by kernel_rfl
theorem dcf1 (s : ByteArray) (cs : List Value) (k : Nat) (C : List Value → AH → Prop) (Q : Value → Prop) : tfn Tryz.prog SD1 [] (hook1 3 (hookLS 0 44 [0, 1, 6, 7] [1] [4, 5, 6] (fun vals h K => C vals h ∧ K (.exit 0) [anyV, anyV, .pointer (some ⟨0, 0, none⟩)] (nH1 cs k)))) 600 [] Tryz.f30 [.string s, .bool true] h0 (fun v _ => Q v) =
    (C [.string s, .bool true, .pointer (some ⟨0, 0, none⟩), .int .i64 0] nH0 ∧ bif Nat.ble 1 k then bif decide (0 < (k : Int)) && decide ((k : Int) ≤ 9223372036854775807) && true && true && true && (0 + (k : Int).toNat).ble (Array.mk cs).size && (List.take (k : Int).toNat (List.drop 0 (Array.mk cs).toList)).all isByte then
      Q (.tuple ⟨[.string ⟨⟨List.map toByte (List.take (k : Int).toNat (List.drop 0 (Array.mk cs).toList))⟩⟩, .bool true]⟩) else False else False) := by kernel_rfl
theorem dcfR (s : ByteArray) (C : List Value → AH → Prop) (Q : Value → Prop) : tfn Tryz.prog SD1 [] (hook1 3 (hookLS 0 44 [0, 1, 6, 7] [1] [4, 5, 6] (fun vals h K => C vals h ∧ ∀ o, K .ret [.string ⟨#[]⟩, .bool false, .pointer (some ⟨0, 0, none⟩)] (nH o)))) 600 [] Tryz.f30 [.string s, .bool true] h0 (fun v _ => Q v) =
    (C [.string s, .bool true, .pointer (some ⟨0, 0, none⟩), .int .i64 0] nH0 ∧ ∀ _ : List UInt8, Q (.tuple ⟨[.string ⟨#[]⟩, .bool false]⟩)) := by kernel_rfl
/-- What a Builder hands out. -/
theorem bd_ok {r : List UInt8} (hr : r ≠ []) (hl : r.length ≤ 100000000) {Q : Value → Prop} {f : ByteArray → Value} (hQ : Q (f (bl r))) :
    bif Nat.ble 1 r.length then bif decide (0 < (r.length : Int)) && decide ((r.length : Int) ≤ 9223372036854775807) && true && true && true && (0 + (r.length : Int).toNat).ble (Array.mk (r.map u8V)).size && (List.take (r.length : Int).toNat (List.drop 0 (Array.mk (r.map u8V)).toList)).all isByte then
      Q (f ⟨⟨List.map toByte (List.take (r.length : Int).toNat (List.drop 0 (Array.mk (r.map u8V)).toList))⟩⟩) else False else False := by
  have hp := List.length_pos_iff.2 hr
  have hlen : (r.map u8V).length = r.length := List.length_map _
  have htk : List.take (r.length : Int).toNat (List.drop 0 (Array.mk (r.map u8V)).toList) = r.map u8V := by
    rw [Int.toNat_natCast, List.drop_zero]
    show List.take r.length (r.map u8V) = _
    rw [List.take_of_length_le (by rw [hlen]; exact Nat.le_refl _)]
  rw [htk, u8_byte, u8_back]
  refine need_mk (Nat.ble_eq_true_of_le (by omega)) (need_mk ?_ hQ)
  have hb : (0 + (r.length : Int).toNat).ble (Array.mk (r.map u8V)).size = true := by
    rw [Nat.ble_eq, Int.toNat_natCast, Nat.zero_add]
    show r.length ≤ (r.map u8V).length
    rw [hlen]; exact Nat.le_refl _
  rw [hb]
  simp only [Bool.and_true, Bool.and_eq_true, decide_eq_true_eq]
  omega
def dcV (l : List UInt8) : Value := .tuple ⟨[.string (bl ((dq l).getD [])), .bool (dq l).isSome]⟩
theorem dc_fn {l : List UInt8} (hl : l.length ≤ 20000) : FnOK 0 Tryz.prog 30 ⟨[.string (bl l), .bool true]⟩ h0 (fun v _ => v = dcV l) := by
  have hloop := fun K => dc_loop K l.length l [] [] (Nat.le_refl _) (by simpa using hl) (Nat.le_refl _)
  simp only [List.nil_append, List.length_nil] at hloop
  have key : ∀ (cl : (AExit → List Value → AH → Prop) → Prop), (∀ K, cl K → (∀ r, dq l = some r → K (.exit 0) [anyV, anyV, .pointer (some ⟨0, 0, none⟩)] (nH r)) ∧ (dq l = none → ∀ o, K .ret [.string ⟨#[]⟩, .bool false, .pointer (some ⟨0, 0, none⟩)] (nH o))) →
      LSpec 0 Tryz.prog 44 (oneLoop (codeOf Tryz.f30) 3) (hookLS 0 44 [0, 1, 6, 7] [1] [4, 5, 6] (fun vals h K => (vals = [.string (bl l), .bool true, .pointer (some ⟨0, 0, none⟩), .int .i64 0] ∧ h = nH0) ∧ cl K)) := by
    intro cl hcl
    refine hook_ok (G := []) (L := noHooks) (f := 600) (sameX := [1]) SD1_ok mixed (by decide) (loops_none _ _ _ _) ?_
    rintro vals h K ⟨⟨rfl, rfl⟩, hK⟩
    obtain ⟨h1, h2⟩ := hcl K hK
    exact ⟨_, hloop K h1 h2⟩
  cases hn : dq l with
  | none =>
    refine FnOK.ttree SD1_ok mixed Tryz.func30 someDC (loops_one oneDC (key (fun K => ∀ o, K .ret [.string ⟨#[]⟩, .bool false, .pointer (some ⟨0, 0, none⟩)] (nH o)) fun K hK => ⟨fun r hr => (by rw [hn] at hr; cases hr), fun _ => hK⟩)) (dcfR (bl l) _ (fun v => v = dcV l)) ?_
    exact ⟨⟨rfl, rfl⟩, fun _ => by unfold dcV; rw [hn]; rfl⟩
  | some r =>
    cases r with
    | nil =>
      refine FnOK.ttree SD1_ok mixed Tryz.func30 someDC (loops_one oneDC (key (fun K => K (.exit 0) [anyV, anyV, .pointer (some ⟨0, 0, none⟩)] nH0) fun K hK => ⟨fun r hr => (by rw [hn] at hr; cases hr; exact hK), fun hr => (by rw [hn] at hr; cases hr)⟩)) (dcf0 (bl l) _ (fun v => v = dcV l)) ?_
      exact ⟨⟨rfl, rfl⟩, by unfold dcV; rw [hn]; rfl⟩
    | cons b r =>
      refine FnOK.ttree SD1_ok mixed Tryz.func30 someDC (loops_one oneDC (key (fun K => K (.exit 0) [anyV, anyV, .pointer (some ⟨0, 0, none⟩)] (nH1 ((b :: r).map u8V) (b :: r).length)) fun K hK => ⟨fun q hq => (by rw [hn] at hq; cases hq; exact hK), fun hr => (by rw [hn] at hr; cases hr)⟩)) (dcf1 (bl l) ((b :: r).map u8V) (b :: r).length _ (fun v => v = dcV l)) ?_
      have := dq_len l hn
      exact ⟨⟨rfl, rfl⟩, bd_ok (r := b :: r) (by simp) (by omega) (Q := fun v => v = dcV l) (f := fun s => .tuple ⟨[.string s, .bool true]⟩) (by unfold dcV; rw [hn]; rfl)⟩
noncomputable def spDc (f : FuncId) (args : Array Value) (h : AH) : Option (Bool × Value × AH) :=
  cond (Nat.beq f 30) (match args with
    | ⟨[.string s, .bool true]⟩ => some (Nat.ble s.data.toList.length 20000, .tuple ⟨[.string (bl ((dq s.data.toList).getD [])), .bool (dq s.data.toList).isSome]⟩, h)
    | _ => none) none
theorem spDc_ok : SpOK spDc := by
  intro f args h v h' hs
  unfold spDc at hs
  obtain ⟨hf, hs2⟩ := cond_some hs
  clear hs
  have := Nat.eq_of_beq_eq_true hf
  subst this
  split at hs2
  · injection hs2 with hs
    injection hs with hb hs
    injection hs with hv hh
    subst hv hh
    rename_i s
    have := dc_fn (Nat.le_of_ble_eq_true hb)
    rw [bl_self] at this
    exact ⟨FnOK.pure this rfl rfl h, Nat.le_refl _⟩
  · cases hs2

/-! queryWord -/
noncomputable def SW1 : SC := ⟨idn, spOr spIf spPc, true, true⟩
theorem SW1_ok : SW1.cfg.OK Tryz.prog := (spIf_ok.or spPc_ok).cfg
noncomputable def qwR (s : ByteArray) (n i : Int) (wr : List Value → Nat → Int → Prop) (fin : Prop) : Prop :=
  bif decide (i < n) then bif decide (0 ≤ i) && decide (i < (s.size : Int)) then
    bif bT s i == 32 then wr [.int .u8 43] 1 (W (i + 1)) else bif decide (bT s i < 256) then
      bif freeB (byI (bT s i)) then wr [.int .u8 (bT s i)] 1 (W (i + 1)) else bif decide (bT s i < 256) then wr ((pctB (byI (bT s i))).map u8V) (bl (pctB (byI (bT s i)))).size (W (i + 1)) else False
    else False
  else False else fin
theorem qwr0 (s : ByteArray) (n i : Int) (B : List Value → AH → Prop) (Q : AExit → List Value → AH → Prop) : once 0 Tryz.prog SW1 [] noHooks 600 28 [0, 3, 7, 8] [1] [2, 3] [1] (oneLoop (codeOf Tryz.f25) 3) [.string s, .pointer (some ⟨0, 0, none⟩), .int .i64 n, .int .i64 i] nH0 B Q =
    qwR s n i (fun vs k j => NoNames (.cells ⟨vs⟩ 5 (0, 0)) ∧ B [.string s, .pointer (some ⟨0, 0, none⟩), .int .i64 n, .int .i64 j] (nH1 vs k)) (Q (.exit 0) [anyV, .pointer (some ⟨0, 0, none⟩)] nH0) := by kernel_rfl
theorem qwr1 (s : ByteArray) (n i : Int) (cs : List Value) (k : Nat) (B : List Value → AH → Prop) (Q : AExit → List Value → AH → Prop) : once 0 Tryz.prog SW1 [] noHooks 600 28 [0, 3, 7, 8] [1] [2, 3] [1] (oneLoop (codeOf Tryz.f25) 3) [.string s, .pointer (some ⟨0, 0, none⟩), .int .i64 n, .int .i64 i] (nH1 cs k) B Q =
    qwR s n i (fun vs m j => apT cs k m vs fun cs k => NoNames (.cells ⟨cs⟩ 5 (0, 0)) ∧ B [.string s, .pointer (some ⟨0, 0, none⟩), .int .i64 n, .int .i64 j] (nH1 cs k)) (NoNames (.cells ⟨cs⟩ 5 (0, 0)) ∧ Q (.exit 0) [anyV, .pointer (some ⟨0, 0, none⟩)] (nH1 cs k)) := by kernel_rfl
set_option maxRecDepth 20000 in
theorem qwR_mono {s : ByteArray} {n i : Int} {wr wr' : List Value → Nat → Int → Prop} {fin fin' : Prop} (hw : ∀ vs n j, wr vs n j → wr' vs n j) (hf : fin → fin') (h : qwR s n i wr fin) : qwR s n i wr' fin' := by
  unfold qwR at h ⊢
  revert h
  repeat' (first | refine cm ?_ ?_ | exact hw _ _ _ | exact hf | exact id)
theorem qw_step (s : ByteArray) (n i : Int) (D : List UInt8) (hl : D.length ≤ 90000) (B : List Value → AH → Prop) (Q : AExit → List Value → AH → Prop)
    (h : qwR s n i (fun vs k j => ∃ bs : List UInt8, vs = bs.map u8V ∧ k = bs.length ∧ bs ≠ [] ∧ bs.length ≤ 10 ∧ B [.string s, .pointer (some ⟨0, 0, none⟩), .int .i64 n, .int .i64 j] (nH (D ++ bs))) (Q (.exit 0) [anyV, .pointer (some ⟨0, 0, none⟩)] (nH D))) :
    once 0 Tryz.prog SW1 [] noHooks 600 28 [0, 3, 7, 8] [1] [2, 3] [1] (oneLoop (codeOf Tryz.f25) 3) [.string s, .pointer (some ⟨0, 0, none⟩), .int .i64 n, .int .i64 i] (nH D) B Q := by
  cases D with
  | nil =>
    refine (qwr0 s n i B Q).mpr (qwR_mono ?_ id h)
    rintro vs k j ⟨bs, rfl, rfl, h3, _, hB⟩
    refine ⟨nnU _ _ _, ?_⟩
    cases bs with
    | nil => exact absurd rfl h3
    | cons b l => exact hB
  | cons d D =>
    refine (qwr1 s n i _ _ B Q).mpr (qwR_mono ?_ (fun q => ⟨nnU _ _ _, q⟩) h)
    rintro vs k j ⟨bs, h1, h2, h3, h4, hB⟩
    exact apT_ok (D := d :: D) h1 h2 h3 (by omega) (by omega) ⟨nnU _ _ _, hB⟩
theorem eq32 {c : UInt8} : ((c.toNat : Int) == 32) = decide (c = 32) := by
  have := all_u8 (p := fun c => ((c.toNat : Int) == 32) == decide (c = 32)) (by decide +kernel) c
  exact eq_of_beq this
theorem qw_it (n : Nat) {vals : List Value} {h : AH} {K : AExit → List Value → AH → Prop} (hx : once 0 Tryz.prog SW1 [] noHooks 600 28 [0, 3, 7, 8] [1] [2, 3] [1] (oneLoop (codeOf Tryz.f25) 3) vals h (fun v g => iter 0 Tryz.prog SW1 [] noHooks 600 28 [0, 3, 7, 8] [1] [2, 3] [1] (oneLoop (codeOf Tryz.f25) 3) n v g K) K) : iter 0 Tryz.prog SW1 [] noHooks 600 28 [0, 3, 7, 8] [1] [2, 3] [1] (oneLoop (codeOf Tryz.f25) 3) (n + 1) vals h K := hx
set_option maxRecDepth 20000 in
theorem qw_loop (K : AExit → List Value → AH → Prop) (n : Nat) (hn : n ≤ 20000) : ∀ (l pre : List UInt8), pre.length + l.length = n → K (.exit 0) [anyV, .pointer (some ⟨0, 0, none⟩)] (nH (qw pre ++ qw l)) →
    iter 0 Tryz.prog SW1 [] noHooks 600 28 [0, 3, 7, 8] [1] [2, 3] [1] (oneLoop (codeOf Tryz.f25) 3) (l.length + 1) [.string (bl (pre ++ l)), .pointer (some ⟨0, 0, none⟩), .int .i64 (n : Int), .int .i64 ((pre.length : Nat) : Int)] (nH (qw pre)) K
  | [], pre, h1, hK => by
    have hq := qw_len pre
    refine qw_it 0 (qw_step _ _ _ _ (by simp at h1; omega) _ _ ?_)
    refine pick_f (decide_eq_false (by simp at h1; omega)) ?_
    rw [show qw [] = [] from rfl, List.append_nil] at hK
    exact hK
  | c :: l, pre, h1, hK => by
    have hq := qw_len pre
    have hsz : (bl (pre ++ c :: l)).size = pre.length + (l.length + 1) := by rw [bl_size, List.length_append, List.length_cons]
    rw [List.length_cons] at h1
    refine qw_it _ (qw_step _ _ _ _ (by omega) _ _ ?_)
    have b0 : bT (bl (pre ++ c :: l)) ((pre.length : Nat) : Int) = (c.toNat : Int) := bT_at 0 rfl
    refine pick_t (decide_eq_true (by omega)) (need_mk (by rw [hsz]; simp; omega) ?_)
    have w1 : W ((pre.length : Int) + 1) = ((pre.length + 1 : Nat) : Int) := w_nat 1 (by omega) (by omega)
    have hpre : pre ++ c :: l = (pre ++ [c]) ++ l := by simp
    have hpl : (pre.length + 1 : Nat) = (pre ++ [c]).length := by simp
    have go : ∀ bs : List UInt8, bs = qc c → iter 0 Tryz.prog SW1 [] noHooks 600 28 [0, 3, 7, 8] [1] [2, 3] [1] (oneLoop (codeOf Tryz.f25) 3) (l.length + 1) [.string (bl (pre ++ c :: l)), .pointer (some ⟨0, 0, none⟩), .int .i64 (n : Int), .int .i64 (W ((pre.length : Int) + 1))] (nH (qw pre ++ bs)) K := by
      intro bs hbs
      rw [w1, hpre, hpl, hbs, ← qw_snoc]
      refine qw_loop K n hn l (pre ++ [c]) (by simp; omega) ?_
      rw [qw_snoc, List.append_assoc, ← qw_cons]
      exact hK
    rw [b0, eq32, byI_of]
    by_cases h32 : c = 32
    · exact pick_t (decide_eq_true h32) ⟨[43], rfl, rfl, by simp, by simp, go _ (by unfold qc; rw [if_pos h32])⟩
    · refine pick_f (decide_eq_false h32) (need_mk (u8_lt c) ?_)
      cases hf : freeB c with
      | true => exact ⟨[c], rfl, rfl, by simp, by simp, go _ (by unfold qc; rw [if_neg h32, hf]; rfl)⟩
      | false => exact need_mk (u8_lt c) ⟨pctB c, rfl, bl_size _, by simp [pctB], by simp [pctB], go _ (by unfold qc; rw [if_neg h32, hf]; rfl)⟩
theorem oneQW : (loopAt (codeOf Tryz.f25) 3).length = 1 := by kernel_rfl
theorem someQW : Tryz.f25.body.isSome = true := by kernel_rfl
theorem qwf0 (s : ByteArray) (C : List Value → AH → Prop) (Q : Value → Prop) : tfn Tryz.prog SW1 [] (hook1 3 (hookLS 0 28 [0, 3, 7, 8] [1] [2, 3] (fun vals h K => C vals h ∧ K (.exit 0) [anyV, .pointer (some ⟨0, 0, none⟩)] nH0))) 600 [] Tryz.f25 [.string s] h0 (fun v _ => Q v) =
    (C [.string s, .pointer (some ⟨0, 0, none⟩), .int .i64 (s.size : Int), .int .i64 0] nH0 ∧ Q (.string ⟨#[]⟩)) := by kernel_rfl
theorem qwf1 (s : ByteArray) (cs : List Value) (k : Nat) (C : List Value → AH → Prop) (Q : Value → Prop) : tfn Tryz.prog SW1 [] (hook1 3 (hookLS 0 28 [0, 3, 7, 8] [1] [2, 3] (fun vals h K => C vals h ∧ K (.exit 0) [anyV, .pointer (some ⟨0, 0, none⟩)] (nH1 cs k)))) 600 [] Tryz.f25 [.string s] h0 (fun v _ => Q v) =
    (C [.string s, .pointer (some ⟨0, 0, none⟩), .int .i64 (s.size : Int), .int .i64 0] nH0 ∧ bif Nat.ble 1 k then bif decide (0 < (k : Int)) && decide ((k : Int) ≤ 9223372036854775807) && true && true && true && (0 + (k : Int).toNat).ble (Array.mk cs).size && (List.take (k : Int).toNat (List.drop 0 (Array.mk cs).toList)).all isByte then
      Q (.string ⟨⟨List.map toByte (List.take (k : Int).toNat (List.drop 0 (Array.mk cs).toList))⟩⟩) else False else False) := by kernel_rfl
theorem qw_fn {l : List UInt8} (hl : l.length ≤ 20000) : FnOK 0 Tryz.prog 25 ⟨[.string (bl l)]⟩ h0 (fun v _ => v = .string (bl (qw l))) := by
  have hloop := fun K => qw_loop K l.length hl l [] (by simp)
  simp only [List.nil_append, List.length_nil, show qw [] = [] from rfl] at hloop
  have key : ∀ (cl : (AExit → List Value → AH → Prop) → Prop), (∀ K, cl K → K (.exit 0) [anyV, .pointer (some ⟨0, 0, none⟩)] (nH (qw l))) →
      LSpec 0 Tryz.prog 28 (oneLoop (codeOf Tryz.f25) 3) (hookLS 0 28 [0, 3, 7, 8] [1] [2, 3] (fun vals h K => (vals = [.string (bl l), .pointer (some ⟨0, 0, none⟩), .int .i64 (l.length : Int), .int .i64 0] ∧ h = nH0) ∧ cl K)) := by
    intro cl hcl
    refine hook_ok (G := []) (L := noHooks) (f := 600) (sameX := [1]) SW1_ok mixed (by decide) (loops_none _ _ _ _) ?_
    rintro vals h K ⟨⟨rfl, rfl⟩, hK⟩
    exact ⟨_, hloop K (hcl K hK)⟩
  cases hn : qw l with
  | nil =>
    refine FnOK.ttree SW1_ok mixed Tryz.func25 someQW (loops_one oneQW (key (fun K => K (.exit 0) [anyV, .pointer (some ⟨0, 0, none⟩)] nH0) fun K hK => by rw [hn]; exact hK)) (qwf0 (bl l) _ (fun v => v = .string (bl []))) ?_
    exact ⟨⟨by rw [bl_size], rfl⟩, rfl⟩
  | cons b r =>
    refine FnOK.ttree SW1_ok mixed Tryz.func25 someQW (loops_one oneQW (key (fun K => K (.exit 0) [anyV, .pointer (some ⟨0, 0, none⟩)] (nH1 ((b :: r).map u8V) (b :: r).length)) fun K hK => by rw [hn]; exact hK)) (qwf1 (bl l) ((b :: r).map u8V) (b :: r).length _ (fun v => v = .string (bl (b :: r)))) ?_
    have := qw_len l
    rw [hn] at this
    exact ⟨⟨by rw [bl_size], rfl⟩, bd_ok (r := b :: r) (by simp) (by omega) (Q := fun v => v = .string (bl (b :: r))) (f := fun s => .string s) rfl⟩
noncomputable def spQw (f : FuncId) (args : Array Value) (h : AH) : Option (Bool × Value × AH) :=
  cond (Nat.beq f 25) (match args with
    | ⟨[.string s]⟩ => some (Nat.ble s.data.toList.length 20000, .string (bl (qw s.data.toList)), h)
    | _ => none) none
theorem spQw_ok : SpOK spQw := by
  intro f args h v h' hs
  unfold spQw at hs
  obtain ⟨hf, hs2⟩ := cond_some hs
  clear hs
  have := Nat.eq_of_beq_eq_true hf
  subst this
  split at hs2
  · injection hs2 with hs
    injection hs with hb hs
    injection hs with hv hh
    subst hv hh
    rename_i s
    have := qw_fn (Nat.le_of_ble_eq_true hb)
    rw [bl_self] at this
    exact ⟨FnOK.pure this rfl rfl h, Nat.le_refl _⟩
  · cases hs2
end Go.Proofs.YtnaeehnkabojdaaGreatDoor
