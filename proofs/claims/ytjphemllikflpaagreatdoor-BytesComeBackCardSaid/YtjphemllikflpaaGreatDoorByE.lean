/-
  Bytes: chunks that are read.
-/
import Derived.Test.YtjphemllikflpaaGreatDoorByD
namespace Go.Proofs.YtjphemllikflpaaGreatDoor
open Go.Ev Go.RowKit RecLaw PathLaw QueryLaw BytesLaw

noncomputable def SUc : SC := ⟨idn, spOr spIg spCl, true, true⟩
theorem SUc_ok : SUc.cfg.OK Tryz.prog := (spIg_ok.or spCl_ok).cfg
/-- What stands from a place on. -/
noncomputable def frS (s : ByteArray) (i : Int) (K : ByteArray → Prop) : Prop := bif decide (0 ≤ i) && decide (i ≤ (s.size : Int)) && decide ((s.size : Int) ≤ (s.size : Int)) then K (s.extract i.toNat s.size) else False
noncomputable def ixE (x : ByteArray) : Int := Lib.index x.data.toList [13, 10]
noncomputable def ctE (x : ByteArray) (K : ByteArray → ByteArray → Bool → Prop) : Prop :=
  bif Nat.ble x.size 1000000 && true then bif decide (ixE x ≥ 0) then bif decide (0 ≤ ixE x) && decide (ixE x ≤ (x.size : Int)) then
    bif decide (0 ≤ W (ixE x + 2)) && decide (W (ixE x + 2) ≤ (x.size : Int)) && decide ((x.size : Int) ≤ (x.size : Int)) then K (x.extract 0 (ixE x).toNat) (x.extract (W (ixE x + 2)).toNat x.size) true else False else False
  else K x ⟨#[]⟩ false else False
def lnI (l : ByteArray) : Int := (lenF l.data.toList : Int)
noncomputable def ucR (s : ByteArray) (i : Int) (k : Int) (bad big : Prop) (fin : Int → Prop) (more : ByteArray → Int → Prop) : Prop :=
  frS s i fun x => ctE x fun l r has => bif inLen l then
    bif !has then bad else bif decide (W (k + lnI l) > 20000) then big else
      bif decide ((r.size : Int) < W (lnI l + 2)) then bad else bif decide (0 ≤ lnI l) && decide (lnI l ≤ W (lnI l + 2)) && decide (W (lnI l + 2) ≤ (r.size : Int)) then
        bif !((r.extract (lnI l).toNat (W (lnI l + 2)).toNat).toList == (ByteArray.mk #[13, 10]).toList) then bad else
          bif lnI l == 0 then fin (W (i + W (W (W ((l.size : Int) + 2) + lnI l) + 2))) else bif decide (0 ≤ lnI l) && decide (lnI l ≤ (r.size : Int)) then more (r.extract 0 (lnI l).toNat) (W (i + W (W (W ((l.size : Int) + 2) + lnI l) + 2))) else False
      else False
  else False
theorem ucr0 (s : ByteArray) (i : Int) (B : List Value → AH → Prop) (Q : AExit → List Value → AH → Prop) : once 0 Tryz.prog SUc [] noHooks 900 64 [0, 5, 6] [1] [2, 3, 4] [1] (oneLoop (codeOf Tryz.f8) 3) [.string s, .pointer (some ⟨0, 0, none⟩), .int .i64 i] nH0 B Q =
    ucR s i 0 (Q .ret [.string ⟨#[]⟩, .int .i64 0, .int .i64 9] h0) (Q .ret [.string ⟨#[]⟩, .int .i64 0, .int .i64 2] h0) (fun j => Q .ret [.string ⟨#[]⟩, .int .i64 j, .int .i64 0] h0)
      (fun w j => wr0 w fun cs n => NoNames (.cells ⟨cs⟩ 5 (0, 0)) ∧ B [.string s, .pointer (some ⟨0, 0, none⟩), .int .i64 j] (nH1 cs n)) := by kernel_rfl
theorem ucr1 (s : ByteArray) (i : Int) (cs : List Value) (m : Nat) (B : List Value → AH → Prop) (Q : AExit → List Value → AH → Prop) : once 0 Tryz.prog SUc [] noHooks 900 64 [0, 5, 6] [1] [2, 3, 4] [1] (oneLoop (codeOf Tryz.f8) 3) [.string s, .pointer (some ⟨0, 0, none⟩), .int .i64 i] (nH1 cs m) B Q =
    ucR s i m (Q .ret [.string ⟨#[]⟩, .int .i64 0, .int .i64 9] h0) (Q .ret [.string ⟨#[]⟩, .int .i64 0, .int .i64 2] h0) (fun j => strT cs m fun v => Q .ret [.string v, .int .i64 j, .int .i64 0] h0)
      (fun w j => wrT cs m w fun cs n => NoNames (.cells ⟨cs⟩ 5 (0, 0)) ∧ B [.string s, .pointer (some ⟨0, 0, none⟩), .int .i64 j] (nH1 cs n)) := by kernel_rfl
theorem frS_ok {pre t : Bs} {K : ByteArray → Prop} (hK : K (bl t)) : frS (bl (pre ++ t)) ((pre.length : Nat) : Int) K := by
  unfold frS
  have e : (bl (pre ++ t)).extract pre.length (pre ++ t).length = bl t := by
    rw [bl_cut _ _ _ (Nat.le_refl _), List.take_length, List.drop_left]
  rw [bl_size]
  simp only [Int.toNat_natCast, e]
  exact need_mk (by rw [List.length_append]; simp only [Bool.and_eq_true, decide_eq_true_eq]; omega) hK
theorem ctE_ok {h r : Bs} (hh : (13 : UInt8) ∉ h) (hl : (h ++ 13 :: 10 :: r).length ≤ 100000) {K : ByteArray → ByteArray → Bool → Prop} (hK : K (bl h) (bl r) true) : ctE (bl (h ++ 13 :: 10 :: r)) K := by
  have hx : ixE (bl (h ++ 13 :: 10 :: r)) = (h.length : Int) := by unfold ixE; rw [bl_list]; exact ix2 h r hh
  have hlen : (h ++ 13 :: 10 :: r).length = h.length + (r.length + 2) := by simp
  have w1 : W ((h.length : Int) + 2) = ((h.length + 2 : Nat) : Int) := w_nat 2 (by omega) (by omega)
  have e1 : (bl (h ++ 13 :: 10 :: r)).extract 0 h.length = bl h := by
    rw [bl_cut _ _ _ (by omega), List.drop_zero, List.take_left]
  have e2 : (bl (h ++ 13 :: 10 :: r)).extract (h.length + 2) (h ++ 13 :: 10 :: r).length = bl r := by
    rw [bl_cut _ _ _ (Nat.le_refl _), List.take_length, ← List.drop_drop, List.drop_left]
    rfl
  unfold ctE
  rw [hx, w1, bl_size]
  simp only [Int.toNat_natCast, e1, e2]
  refine need_mk (by rw [Nat.ble_eq_true_of_le (by omega)]; rfl) (pick_t (decide_eq_true (by omega)) (need_mk ?_ (need_mk ?_ hK)))
  · simp only [Bool.and_eq_true, decide_eq_true_eq]; omega
  · simp only [Bool.and_eq_true, decide_eq_true_eq]; omega
theorem hx_len {n : Nat} (h1 : 1 ≤ n) (h2 : n ≤ 30) : (hexN n, n) ∈ lenL := by
  refine List.mem_cons_of_mem _ (List.mem_map.2 ⟨n - 1, List.mem_range.2 (by omega), ?_⟩)
  rw [Nat.sub_add_cancel h1]
theorem lenL_len : ∀ t ∈ lenL, (13 : UInt8) ∉ t.1 ∧ t.1.length ≤ 2 ∧ t.2 ≤ 30 := by decide +kernel
theorem w_add {a b : Nat} (h : a + b ≤ 2000000) : W ((a : Int) + (b : Int)) = ((a + b : Nat) : Int) := by unfold W; rw [wrap_id _ (by omega) (by omega)]; rfl
theorem ucR_ok {pre h c rest : Bs} {k : Nat} (hm : (h, c.length) ∈ lenL) (hk : k + c.length ≤ 20000) (hs : (pre ++ (h ++ 13 :: 10 :: (c ++ 13 :: 10 :: rest))).length ≤ 100000) {bad big : Prop} {fin : Int → Prop} {more : ByteArray → Int → Prop}
    (h0 : c = [] → fin ((pre ++ (h ++ 13 :: 10 :: (c ++ [13, 10]))).length : Int)) (h1 : c ≠ [] → more (bl c) ((pre ++ (h ++ 13 :: 10 :: (c ++ [13, 10]))).length : Int)) :
    ucR (bl (pre ++ (h ++ 13 :: 10 :: (c ++ 13 :: 10 :: rest)))) ((pre.length : Nat) : Int) (k : Int) bad big fin more := by
  obtain ⟨n1, n2, n3⟩ := lenL_len _ hm
  simp only at n1 n2 n3
  have hl : (pre ++ (h ++ 13 :: 10 :: (c ++ 13 :: 10 :: rest))).length = pre.length + (h.length + (c.length + (rest.length + 2) + 2)) := by simp
  refine frS_ok (ctE_ok n1 (by simp at hs ⊢; omega) ?_)
  have e0 : lnI (bl h) = (c.length : Int) := by unfold lnI; rw [bl_list, lenF_of _ hm]
  have w0 : W ((k : Int) + (c.length : Int)) = ((k + c.length : Nat) : Int) := w_add (by omega)
  have w1 : W ((c.length : Int) + 2) = ((c.length + 2 : Nat) : Int) := w_nat 2 (by omega) (by omega)
  have w2 : W ((h.length : Int) + 2) = ((h.length + 2 : Nat) : Int) := w_nat 2 (by omega) (by omega)
  have w3 : W (((h.length + 2 : Nat) : Int) + (c.length : Int)) = ((h.length + 2 + c.length : Nat) : Int) := w_add (by omega)
  have w4 : W (((h.length + 2 + c.length : Nat) : Int) + 2) = ((h.length + 2 + c.length + 2 : Nat) : Int) := w_nat 2 (by omega) (by omega)
  have w5 : W ((pre.length : Int) + ((h.length + 2 + c.length + 2 : Nat) : Int)) = ((pre.length + (h.length + 2 + c.length + 2) : Nat) : Int) := w_add (by omega)
  have ej : pre.length + (h.length + 2 + c.length + 2) = (pre ++ (h ++ 13 :: 10 :: (c ++ [13, 10]))).length := by simp; omega
  have hr : (c ++ 13 :: 10 :: rest).length = c.length + (rest.length + 2) := by simp
  have e1 : (bl (c ++ 13 :: 10 :: rest)).extract c.length (c.length + 2) = bl [13, 10] := by
    rw [bl_cut _ _ _ (by omega), List.take_length_add_append, List.drop_left]
    rfl
  have e2 : (bl (c ++ 13 :: 10 :: rest)).extract 0 c.length = bl c := by
    rw [bl_cut _ _ _ (by omega), List.drop_zero, List.take_left]
  rw [e0, w0, w1, bl_size, bl_size, w2, w3, w4, w5]
  simp only [Int.toNat_natCast, e1, e2]
  refine need_mk ?_ (pick_f rfl (pick_f (decide_eq_false (by omega)) (pick_f (decide_eq_false (by omega)) (need_mk ?_ (pick_f ?_ ?_)))))
  · unfold inLen
    rw [bl_list]
    simp only [List.contains_iff_mem]
    exact List.mem_map.2 ⟨_, hm, rfl⟩
  · simp only [Bool.and_eq_true, decide_eq_true_eq]; omega
  · rw [bl_beq]; rfl
  · rw [ej]
    by_cases hc : c = []
    · subst hc
      exact pick_t rfl (h0 rfl)
    · have hp := List.length_pos_iff.2 hc
      refine pick_f ?_ (need_mk ?_ (h1 hc))
      · rw [beq_eq_false_iff_ne]; omega
      · simp only [Bool.and_eq_true, decide_eq_true_eq]; omega
theorem uc_it (n : Nat) {vals : List Value} {h : AH} {K : AExit → List Value → AH → Prop} (hx : once 0 Tryz.prog SUc [] noHooks 900 64 [0, 5, 6] [1] [2, 3, 4] [1] (oneLoop (codeOf Tryz.f8) 3) vals h (fun v g => iter 0 Tryz.prog SUc [] noHooks 900 64 [0, 5, 6] [1] [2, 3, 4] [1] (oneLoop (codeOf Tryz.f8) 3) n v g K) K) : iter 0 Tryz.prog SUc [] noHooks 900 64 [0, 5, 6] [1] [2, 3, 4] [1] (oneLoop (codeOf Tryz.f8) 3) (n + 1) vals h K := hx
set_option maxRecDepth 20000 in
theorem uc_step {pre h c rest D : Bs} (hm : (h, c.length) ∈ lenL) (hk : D.length + c.length ≤ 20000) (hs : (pre ++ (h ++ 13 :: 10 :: (c ++ 13 :: 10 :: rest))).length ≤ 100000) (B : List Value → AH → Prop) (Q : AExit → List Value → AH → Prop)
    (h0 : c = [] → Q .ret [.string (bl D), .int .i64 ((pre ++ (h ++ 13 :: 10 :: (c ++ [13, 10]))).length : Int), .int .i64 0] h0)
    (h1 : c ≠ [] → B [.string (bl (pre ++ (h ++ 13 :: 10 :: (c ++ 13 :: 10 :: rest)))), .pointer (some ⟨0, 0, none⟩), .int .i64 ((pre ++ (h ++ 13 :: 10 :: (c ++ [13, 10]))).length : Int)] (nH (D ++ c))) : once 0 Tryz.prog SUc [] noHooks 900 64 [0, 5, 6] [1] [2, 3, 4] [1] (oneLoop (codeOf Tryz.f8) 3) [.string (bl (pre ++ (h ++ 13 :: 10 :: (c ++ 13 :: 10 :: rest)))), .pointer (some ⟨0, 0, none⟩), .int .i64 ((pre.length : Nat) : Int)] (nH D) B Q := by
  cases D with
  | nil =>
    refine (ucr0 _ _ B Q).mpr (ucR_ok (k := 0) hm (by simpa using hk) hs h0 fun hc => wr0_ok hc (by omega) ⟨nnU _ _ _, ?_⟩)
    have := h1 hc
    rw [List.nil_append, nH_ne hc] at this
    exact this
  | cons d D =>
    exact (ucr1 _ _ _ _ B Q).mpr (ucR_ok (k := (d :: D).length) hm hk hs (fun e => strT_ok (by simp) (by omega) (h0 e)) fun hc => wrT_ok (b := d :: D) hc (by omega) (by omega) ⟨nnU _ _ _, h1 hc⟩)
set_option maxRecDepth 20000 in
theorem uc_loop (K : AExit → List Value → AH → Prop) (more : Bs) : ∀ (L : List Bs) (pre D : Bs), (∀ c ∈ L, c ≠ [] ∧ c.length ≤ 30) → D.length + L.flatten.length ≤ 20000 → (pre ++ (chkT L ++ more)).length ≤ 100000 →
    K .ret [.string (bl (D ++ L.flatten)), .int .i64 ((pre ++ chkT L).length : Int), .int .i64 0] h0 → iter 0 Tryz.prog SUc [] noHooks 900 64 [0, 5, 6] [1] [2, 3, 4] [1] (oneLoop (codeOf Tryz.f8) 3) (L.length + 1) [.string (bl (pre ++ (chkT L ++ more))), .pointer (some ⟨0, 0, none⟩), .int .i64 ((pre.length : Nat) : Int)] (nH D) K
  | [], pre, D, _, h2, h3, hK => by
    have e : chkT [] ++ more = [48] ++ 13 :: 10 :: ([] ++ 13 :: 10 :: more) := rfl
    rw [e] at h3 ⊢
    rw [List.flatten_nil, List.append_nil] at hK
    exact uc_it 0 (uc_step (c := []) (List.mem_cons_self) (by simpa using h2) h3 _ _ (fun _ => hK) fun q => absurd rfl q)
  | c :: L, pre, D, h1, h2, h3, hK => by
    obtain ⟨c1, c2⟩ := h1 c (by simp)
    have hp := List.length_pos_iff.2 c1
    have e : chkT (c :: L) ++ more = hexN c.length ++ 13 :: 10 :: (c ++ 13 :: 10 :: (chkT L ++ more)) := by
      unfold chkT
      rw [List.flatMap_cons]
      unfold chB
      simp
    have e2 : pre ++ (hexN c.length ++ 13 :: 10 :: (c ++ 13 :: 10 :: (chkT L ++ more))) = (pre ++ (hexN c.length ++ 13 :: 10 :: (c ++ [13, 10]))) ++ (chkT L ++ more) := by simp
    have e3 : pre ++ chkT (c :: L) = (pre ++ (hexN c.length ++ 13 :: 10 :: (c ++ [13, 10]))) ++ chkT L := by
      unfold chkT
      rw [List.flatMap_cons]
      unfold chB
      simp
    rw [e] at h3 ⊢
    rw [List.flatten_cons, List.length_append] at h2
    refine uc_it _ (uc_step (hx_len hp c2) (by omega) h3 _ _ (fun q => absurd q c1) fun _ => ?_)
    rw [e2] at h3 ⊢
    refine uc_loop K more L _ (D ++ c) (fun x hx => h1 x (by simp [hx])) (by rw [List.length_append]; omega) h3 ?_
    rw [e3, List.flatten_cons, ← List.append_assoc] at hK
    exact hK
theorem oneUC : (loopAt (codeOf Tryz.f8) 3).length = 1 := by kernel_rfl
theorem someUC : Tryz.f8.body.isSome = true := by kernel_rfl
theorem ucf (s v : ByteArray) (j : Int) (C : List Value → AH → Prop) (Q : Value → Prop) : tfn Tryz.prog SUc [] (hook1 3 (hookLS 0 64 [0, 5, 6] [1] [2, 3, 4] (fun vals h K => C vals h ∧ K .ret [.string v, .int .i64 j, .int .i64 0] h0))) 900 [] Tryz.f8 [.string s] h0 (fun v _ => Q v) =
    (C [.string s, .pointer (some ⟨0, 0, none⟩), .int .i64 0] nH0 ∧ Q (.tuple ⟨[.string v, .int .i64 j, .int .i64 0]⟩)) := by kernel_rfl
set_option maxRecDepth 20000 in
theorem uc_fn {L : List Bs} {more : Bs} (h1 : ∀ c ∈ L, c ≠ [] ∧ c.length ≤ 30) (h2 : L.flatten.length ≤ 20000) (h3 : (chkT L ++ more).length ≤ 100000) :
    FnOK 0 Tryz.prog 8 ⟨[.string (bl (chkT L ++ more))]⟩ h0 (fun v _ => v = .tuple ⟨[.string (bl L.flatten), .int .i64 ((chkT L).length : Int), .int .i64 0]⟩) := by
  refine FnOK.ttree SUc_ok mixed Tryz.func8 someUC (loops_one oneUC ?_) (ucf (bl (chkT L ++ more)) (bl L.flatten) ((chkT L).length : Int) (fun vals h => vals = [.string (bl (chkT L ++ more)), .pointer (some ⟨0, 0, none⟩), .int .i64 0] ∧ h = nH0) (fun v => v = .tuple ⟨[.string (bl L.flatten), .int .i64 ((chkT L).length : Int), .int .i64 0]⟩)) ⟨⟨rfl, rfl⟩, rfl⟩
  refine hook_ok (G := []) (L := noHooks) (f := 900) (sameX := [1]) SUc_ok mixed (by decide) (loops_none _ _ _ _) ?_
  rintro vals h K ⟨⟨rfl, rfl⟩, hK⟩
  exact ⟨_, uc_loop K more L [] [] h1 (by simpa using h2) (by simpa using h3) hK⟩
end Go.Proofs.YtjphemllikflpaaGreatDoor
