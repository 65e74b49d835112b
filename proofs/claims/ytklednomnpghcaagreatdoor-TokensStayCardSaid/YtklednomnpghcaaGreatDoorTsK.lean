/-
  Tokens stay: Revoke.
-/
import Derived.Test.YtklednomnpghcaaGreatDoorTsJ
namespace Go.Proofs.YtklednomnpghcaaGreatDoor
open Go.Ev Go.RowKit ScopeLaw

theorem nnR (L : List R3) (t : TypeId) (fr : Nat × Nat) : NoNames (.cells ⟨L.flatMap rvC⟩ t fr) := fun v hv => rvC_p1 L v (by simpa using hv)
theorem ren_two {b y : Nat} (h : b ≠ y) : renOk [(b, 0), (y, 1)] 2 = true := by
  have h1 : Nat.beq b y = false := by cases q : Nat.beq b y with | false => rfl | true => exact (h (Nat.eq_of_beq_eq_true q)).elim
  have h2 : Nat.beq 0 1 = false := rfl
  simp [renOk, renB, invB, eqO, h1, h2]
def inB0 (L : List R3) (u : ByteArray) (c : Int × Int) : List (Nat × Obj) := [(2, .cells ⟨L.flatMap rvC⟩ 53 (0, 0)), (1, .cells ⟨rvC (u, c)⟩ 53 (0, 0))]
theorem in_fn0 {L : List R3} (hl : L.length ≤ 1000) {i : Nat} (hi : i ≤ L.length) (u : ByteArray) (c : Int × Int) : FnOK 2 Tryz.prog 48 ⟨[.slice (some ⟨0, 0, none⟩) L.length L.length, .int .i64 (i : Int), .slice (some ⟨1, 0, none⟩) 1 1]⟩ ⟨2, 2, [(0, .cells ⟨L.flatMap rvC⟩ 53 (0, 0)), (1, .cells ⟨rvC (u, c)⟩ 53 (0, 0))]⟩
    (fun v g => v = .slice (some ⟨2, 0, none⟩) (L.length + 1) (L.length + 1) ∧ g = ⟨3, 0, inB0 (insL i (u, c) L) u c⟩) := by
  refine FnOK.premark (g := 0) (c := ⟨L.flatMap rvC⟩) (t := 53) 0 1 rfl ?_
  show FnOK 2 Tryz.prog 48 _ ⟨2, 0, [(0, .cells ⟨L.flatMap rvC⟩ 53 (1, 1)), (1, .cells ⟨rvC (u, c)⟩ 53 (0, 0))]⟩ _
  refine FnOK.low (lw := 2) ?_
  refine FnOK.weak1 ((in_fn hl hi u c).mono ?_)
  rintro v g ⟨rfl, rfl⟩
  exact ⟨_, _, Weak.mark (g := 2) 1 0 rfl, rfl, rfl⟩
def rdR : List Value → List R3
  | .string x :: .int .i64 a :: .int .i64 u :: r => (x, a, u) :: rdR r
  | _ => []
noncomputable def spIn (g : FuncId) (args : Array Value) (h : AH) : Option (Bool × Value × AH) :=
  cond (Nat.beq g 48) (match args with
    | ⟨[.slice (some ⟨b, 0, none⟩) n m, .int .i64 i, .slice (some ⟨y, 0, none⟩) 1 1]⟩ => match h.get b, h.get y with
      | some (.cells ⟨cs⟩ t1 (0, 0)), some (.cells ⟨[.string u, .int .i64 c, .int .i64 d]⟩ t2 (0, 0)) => some (Nat.beq t1 53 && Nat.beq t2 53 && Nat.beq m n && tq cs ((rdR cs).flatMap rvC) && Nat.beq n (rdR cs).length && Nat.ble n 1000 && decide (0 ≤ i) && decide (i ≤ (n : Int)) && !Nat.beq b y && Nat.blt b h.next && Nat.blt y h.next,
        .slice (some ⟨h.next, 0, none⟩) (n + 1) (n + 1), (h.del b).push (.cells ⟨(insL i.toNat (u, (c, d)) (rdR cs)).flatMap rvC⟩ 53 (0, 0)))
      | _, _ => none
    | _ => none) none
theorem spIn_ok : SpOK spIn := by
  intro f args h v h' hs
  unfold spIn at hs
  obtain ⟨hf, hs2⟩ := cond_some hs
  clear hs
  have := Nat.eq_of_beq_eq_true hf
  subst this
  split at hs2
  · rename_i b n m i y
    split at hs2
    · rename_i cs t1 u c d t2 hg hgy
      injection hs2 with hs
      injection hs with hb hs
      injection hs with hv hh
      subst hv hh
      simp only [Bool.and_eq_true, Bool.not_eq_true', decide_eq_true_eq] at hb
      obtain ⟨⟨⟨⟨⟨⟨⟨⟨⟨⟨b1, b2⟩, b3⟩, b4⟩, b4'⟩, b5⟩, b6⟩, b7⟩, b8⟩, b9⟩, b10⟩ := hb
      have b1 := Nat.eq_of_beq_eq_true b1
      have b2 := Nat.eq_of_beq_eq_true b2
      have b3 := Nat.eq_of_beq_eq_true b3
      have d4 := tq_iff b4
      clear b4
      have e4 := Nat.eq_of_beq_eq_true b4'
      have b5 := Nat.le_of_ble_eq_true b5
      obtain ⟨j, rfl⟩ : ∃ j : Nat, i = (j : Int) := ⟨i.toNat, by omega⟩
      obtain ⟨L, hL⟩ : ∃ L, rdR cs = L := ⟨_, rfl⟩
      rw [hL] at d4 e4 ⊢
      clear hL b4'
      subst b1 b2 b3 d4 e4
      simp only [Int.toNat_natCast]
      obtain ⟨c, hc⟩ : ∃ q : Int × Int, q = (c, d) := ⟨_, rfl⟩
      rw [← hc]
      have hgy : h.get y = some (.cells ⟨rvC (u, c)⟩ 53 (0, 0)) := by rw [hc]; exact hgy
      have hne : b ≠ y := fun q => by rw [q, Nat.beq_refl] at b8; cases b8
      have hyb : Nat.beq y b = false := beq_n (fun q => hne q.symm)
      have hbn : b < h.next := by have := b9; rw [Nat.blt, Nat.ble_eq] at this; omega
      have hyn : y < h.next := by have := b10; rw [Nat.blt, Nat.ble_eq] at this; omega
      have hsn : ∀ a, a ≠ b → (h.del b).get a = h.get a := fun a ha => del_ne ha
      have hsb : (h.del b).get b = none := look_delB_self h.blocks
      have hnx : (h.del b).next = h.next := rfl
      have hnny : NoNames (.cells ⟨rvC (u, c)⟩ 53 (0, 0)) := nnR [(u, c)] 53 (0, 0)
      refine ⟨?_, Nat.le_succ _⟩
      refine FnOK.frame (r := [(b, 0), (y, 1)]) (q := [(1, y), (2, h.next)]) (bl := [(0, .cells ⟨L.flatMap rvC⟩ 53 (0, 0)), (1, .cells ⟨rvC (u, c)⟩ 53 (0, 0))]) (bl' := inB0 (insL j (u, c) L) u c) (nx := 3) (lw := 0) (u := .slice (some ⟨2, 0, none⟩) (L.length + 1) (L.length + 1)) (small := [.slice (some ⟨0, 0, none⟩) L.length L.length, .int .i64 (j : Int), .slice (some ⟨1, 0, none⟩) 1 1])
        (ren_two hne) ?_ ?_ (in_fn0 b5 (by omega) u c) ?_ ?_ ?_ ?_ ?_ (Nat.le_succ _) (Nat.min_le_left _ _) ?_
      · simp [ren2s, ren2, ren1, ren0, renL, renB, p1, b8]
      · intro k o hi
        match k, hi with
        | 0, hi => cases hi; exact ⟨b, _, true, by simp, hg, rfl, fun _ => nnR L 53 (0, 0)⟩
        | 1, hi => cases hi; exact ⟨y, _, true, by simp, hgy, rfl, fun _ => hnny⟩
        | k + 2, hi => cases hi
      · have h2 : Nat.beq 1 2 = false := rfl
        have h3 : Nat.beq 2 1 = false := rfl
        have h4 : Nat.beq y h.next = false := beq_n (by omega)
        have h5 : Nat.beq h.next y = false := beq_n (by omega)
        simp [renOk, renB, invB, eqO, AH.push, hnx, h2, h3, h4, h5, Nat.blt, Nat.ble_eq]
        omega
      · intro k a ha
        simp only [List.mem_cons, Prod.mk.injEq, List.not_mem_nil, or_false] at ha
        rcases ha with ⟨rfl, rfl⟩ | ⟨rfl, rfl⟩
        · exact .inl ⟨by simp, by rw [hgy]; rfl⟩
        · exact .inr ⟨Nat.le_refl _, rfl⟩
      · rfl
      · intro a o2 ha
        rw [look_push] at ha
        split at ha
        · rename_i hn
          cases ha
          refine .inr ⟨2, _, true, ?_, rfl, rfl, fun _ => nnR (insL j (u, c) L) 53 (0, 0)⟩
          rw [← hn]
          simp [hnx]
        · by_cases hab : a = b
          · subst hab
            rw [hsb] at ha
            cases ha
          · rw [hsn a hab] at ha
            by_cases hay : a = y
            · subst hay
              rw [hgy] at ha
              cases ha
              exact .inr ⟨1, _, true, by simp, rfl, rfl, fun _ => hnny⟩
            · refine .inl ⟨ha, fun k hk => ?_⟩
              simp only [List.mem_cons, Prod.mk.injEq, List.not_mem_nil, or_false] at hk
              rcases hk with ⟨q, _⟩ | ⟨q, _⟩
              · exact hab q
              · exact hay q
      · intro hids a o2 ha
        rw [look_push] at ha
        split at ha
        · rename_i hn
          rw [← hn]
          exact Nat.lt_succ_self _
        · by_cases hab : a = b
          · subst hab
            rw [hsb] at ha
            cases ha
          · rw [hsn a hab] at ha
            exact Nat.lt_succ_of_lt (hids a o2 ha)
      · intro k hk hlow
        have hlow : k < min h.low b := hlow
        rw [look_push, if_neg (by rw [hnx]; omega)]
        exact hsn k (by omega)
    · cases hs2
  · cases hs2
/-! Revoke -/
noncomputable def SRvk (L : List R3) (C : Value) : SC := ⟨idn, spOr (spT 42 [rvW L] (.int .i64 0)) (spOr (spT 38 [C] (.int .i64 0)) spIn), false, true⟩
theorem slT_f {v : Value} {e : Value} (h : slT v = ((0, 0, false), e)) : v = .tuple ⟨[.slice none 0 0, e]⟩ := by
  unfold slT at h
  split at h
  · rename_i u e'
    simp only [Prod.mk.injEq] at h
    obtain ⟨h1, rfl⟩ := h
    rw [slN_f h1]
  · simp at h
def upL (t : Int) : Nat → List R3 → List R3
  | 0, p :: l => (p.1, (if 5 < p.2.1 then 5 else p.2.1), (if t > p.2.2 then t else p.2.2)) :: l
  | k + 1, p :: l => p :: upL t k l
  | _, [] => []
noncomputable def rvI (L : List R3) (i : ByteArray) (t : Int) (k : Nat) (Q : TQ) : Prop := bif tq (L.flatMap rvC) (L.flatMap rvC) && true && true && true && true && true && true && true then
  Q ((L.length + 1, L.length + 1, true), .int .i64 0) (some (.cells ⟨(insL k (i, (5, t)) L).flatMap rvC⟩ 53 (0, 0))) else False
def idOf (L : List R3) (k : Nat) : ByteArray := (L.getD k (⟨#[]⟩, 0, 0)).1
noncomputable def bsT (L : List R3) (i : ByteArray) (t : Int) (Q : TQ) : Nat → Nat → Nat → Prop
  | 0, _, _ => False
  | f + 1, lo, hi => cond (Nat.blt lo hi) (bif decide (Extern.BytealgCompare.cmp (idOf L ((lo + hi) / 2)) i < 0) then bsT L i t Q f ((lo + hi) / 2 + 1) hi else bsT L i t Q f lo ((lo + hi) / 2))
    (cond (Nat.blt lo L.length) (bif (bif true then Extern.BytealgCompare.cmp (idOf L lo) i == 0 else false) then Q ((L.length, L.length, true), .int .i64 0) (some (.cells ⟨(upL t lo L).flatMap rvC⟩ 53 (0, 0))) else rvI L i t lo Q) (rvI L i t lo Q))
theorem rv1 (i s g p : ByteArray) (A S : Value) (f t : Int) (x0 : ByteArray) (a0 u0 : Int) (Q : TQ) : ffn Tryz.prog (SRvk [(x0, a0, u0)] (clm i s g p A S f t)) [] 3000 [] Tryz.f15 [rvW [(x0, a0, u0)], clm i s g p A S f t, .int .i64 5] h0 (fun v h => Q (slT v) (h.get (blkT v))) =
    tqT [rvW [(x0, a0, u0)]] (tqT [clm i s g p A S f t] (bif decide (t ≤ 5) then Q ((1, 1, true), .int .i64 0) (some (.cells ⟨([(x0, a0, u0)] : List R3).flatMap rvC⟩ 53 (0, 0))) else bsT [(x0, a0, u0)] i t Q 5 0 1)) := by kernel_rfl
theorem rv2 (i s g p : ByteArray) (A S : Value) (f t : Int) (x0 x1 : ByteArray) (a0 u0 a1 u1 : Int) (Q : TQ) : ffn Tryz.prog (SRvk [(x0, a0, u0), (x1, a1, u1)] (clm i s g p A S f t)) [] 3000 [] Tryz.f15 [rvW [(x0, a0, u0), (x1, a1, u1)], clm i s g p A S f t, .int .i64 5] h0 (fun v h => Q (slT v) (h.get (blkT v))) =
    tqT [rvW [(x0, a0, u0), (x1, a1, u1)]] (tqT [clm i s g p A S f t] (bif decide (t ≤ 5) then Q ((2, 2, true), .int .i64 0) (some (.cells ⟨([(x0, a0, u0), (x1, a1, u1)] : List R3).flatMap rvC⟩ 53 (0, 0))) else bsT [(x0, a0, u0), (x1, a1, u1)] i t Q 5 0 2)) := by kernel_rfl
theorem rv3 (i s g p : ByteArray) (A S : Value) (f t : Int) (x0 x1 x2 : ByteArray) (a0 u0 a1 u1 a2 u2 : Int) (Q : TQ) : ffn Tryz.prog (SRvk [(x0, a0, u0), (x1, a1, u1), (x2, a2, u2)] (clm i s g p A S f t)) [] 3000 [] Tryz.f15 [rvW [(x0, a0, u0), (x1, a1, u1), (x2, a2, u2)], clm i s g p A S f t, .int .i64 5] h0 (fun v h => Q (slT v) (h.get (blkT v))) =
    tqT [rvW [(x0, a0, u0), (x1, a1, u1), (x2, a2, u2)]] (tqT [clm i s g p A S f t] (bif decide (t ≤ 5) then Q ((3, 3, true), .int .i64 0) (some (.cells ⟨([(x0, a0, u0), (x1, a1, u1), (x2, a2, u2)] : List R3).flatMap rvC⟩ 53 (0, 0))) else bsT [(x0, a0, u0), (x1, a1, u1), (x2, a2, u2)] i t Q 5 0 3)) := by kernel_rfl
theorem rv4 (i s g p : ByteArray) (A S : Value) (f t : Int) (x0 x1 x2 x3 : ByteArray) (a0 u0 a1 u1 a2 u2 a3 u3 : Int) (Q : TQ) : ffn Tryz.prog (SRvk [(x0, a0, u0), (x1, a1, u1), (x2, a2, u2), (x3, a3, u3)] (clm i s g p A S f t)) [] 3000 [] Tryz.f15 [rvW [(x0, a0, u0), (x1, a1, u1), (x2, a2, u2), (x3, a3, u3)], clm i s g p A S f t, .int .i64 5] h0 (fun v h => Q (slT v) (h.get (blkT v))) =
    tqT [rvW [(x0, a0, u0), (x1, a1, u1), (x2, a2, u2), (x3, a3, u3)]] (tqT [clm i s g p A S f t] (bif decide (t ≤ 5) then Q ((4, 4, true), .int .i64 0) (some (.cells ⟨([(x0, a0, u0), (x1, a1, u1), (x2, a2, u2), (x3, a3, u3)] : List R3).flatMap rvC⟩ 53 (0, 0))) else bsT [(x0, a0, u0), (x1, a1, u1), (x2, a2, u2), (x3, a3, u3)] i t Q 5 0 4)) := by kernel_rfl
theorem rv0 (i s g p : ByteArray) (A S : Value) (f t : Int) (Q : TQ) : ffn Tryz.prog (SRvk [] (clm i s g p A S f t)) [] 3000 [] Tryz.f15 [rvW [], clm i s g p A S f t, .int .i64 5] h0 (fun v h => Q (slT v) (h.get (blkT v))) =
    tqT [rvW []] (tqT [clm i s g p A S f t] (bif decide (t ≤ 5) then Q ((0, 0, false), .int .i64 0) none else Q ((1, 1, true), .int .i64 0) (some (.cells ⟨rvC (i, (5, t))⟩ 53 (0, 0))))) := by kernel_rfl
theorem rvE1 (L : List R3) (i s g p : ByteArray) (A S : Value) (f t : Int) (Q : Value → Prop) : ffn Tryz.prog (SPru L 1) [] 3000 [] Tryz.f15 [rvW L, clm i s g p A S f t, .int .i64 5] h0 (fun v _ => Q v) = tqT [rvW L] (Q (.tuple ⟨[.slice none 0 0, .int .i64 1]⟩)) := by kernel_rfl
theorem rvE5 (L : List R3) (i s g p : ByteArray) (A S : Value) (f t : Int) (Q : Value → Prop) : ffn Tryz.prog (SPru L 5) [] 3000 [] Tryz.f15 [rvW L, clm i s g p A S f t, .int .i64 5] h0 (fun v _ => Q v) = tqT [rvW L] (Q (.tuple ⟨[.slice none 0 0, .int .i64 5]⟩)) := by kernel_rfl
theorem rvE7 (L : List R3) (i s g p : ByteArray) (A S : Value) (f t : Int) (Q : Value → Prop) : ffn Tryz.prog (SPru L 7) [] 3000 [] Tryz.f15 [rvW L, clm i s g p A S f t, .int .i64 5] h0 (fun v _ => Q v) = tqT [rvW L] (Q (.tuple ⟨[.slice none 0 0, .int .i64 7]⟩)) := by kernel_rfl
theorem upL_len (t : Int) : ∀ (k : Nat) (L : List R3), (upL t k L).length = L.length
  | 0, [] => rfl
  | 0, _ :: _ => rfl
  | k + 1, [] => rfl
  | k + 1, p :: l => by
    show (upL t k l).length + 1 = _
    rw [upL_len t k l]; rfl
theorem insL_len (k : Nat) (x : R3) (L : List R3) (h : k ≤ L.length) : (insL k x L).length = L.length + 1 := by
  unfold insL
  rw [List.length_append, List.length_cons, List.length_take, List.length_drop]
  omega
theorem okz_fl {L : List R3} {n : Nat} (h : L.length = n) (h5 : n ≤ 5) : OKZ 5 3 n (L.flatMap rvC) := ⟨h5, by rw [rvC_len]; omega, rvC_p1 L⟩
theorem bsT_ex (L : List R3) (i : ByteArray) (t : Int) (h4 : L.length ≤ 4) : ∀ (f lo hi : Nat), hi - lo < f → lo ≤ hi → hi ≤ L.length → ∃ n c cs, OKZ 5 3 n cs ∧ ∀ Q : TQ, Q ((n, c, true), .int .i64 0) (some (.cells ⟨cs⟩ 53 (0, 0))) → bsT L i t Q f lo hi
  | 0, _, _, h, _, _ => absurd h (by omega)
  | f + 1, lo, hi, h1, h2, h3 => by
    cases hb : Nat.blt lo hi with
    | true =>
      have hlt : lo < hi := by rw [Nat.blt, Nat.ble_eq] at hb; omega
      cases hc : decide (Extern.BytealgCompare.cmp (idOf L ((lo + hi) / 2)) i < 0) with
      | true =>
        obtain ⟨n, c, cs, g1, g2⟩ := bsT_ex L i t h4 f ((lo + hi) / 2 + 1) hi (by omega) (by omega) h3
        exact ⟨n, c, cs, g1, fun Q hQ => by unfold bsT; exact pick_t hb (pick_t hc (g2 Q hQ))⟩
      | false =>
        obtain ⟨n, c, cs, g1, g2⟩ := bsT_ex L i t h4 f lo ((lo + hi) / 2) (by omega) (by omega) (by omega)
        exact ⟨n, c, cs, g1, fun Q hQ => by unfold bsT; exact pick_t hb (pick_f hc (g2 Q hQ))⟩
    | false =>
      have hI : ∃ n c cs, OKZ 5 3 n cs ∧ ∀ Q : TQ, Q ((n, c, true), .int .i64 0) (some (.cells ⟨cs⟩ 53 (0, 0))) → rvI L i t lo Q :=
        ⟨_, _, _, okz_fl (insL_len lo (i, (5, t)) L (by omega)) (by omega), fun Q hQ => need_mk (by rw [tq_eq rfl]; rfl) hQ⟩
      cases hl : Nat.blt lo L.length with
      | true =>
        cases hc : (bif true then Extern.BytealgCompare.cmp (idOf L lo) i == 0 else false) with
        | true => exact ⟨_, _, _, okz_fl (upL_len t lo L) (by omega), fun Q hQ => by unfold bsT; exact pick_f hb (pick_t hl (pick_t hc hQ))⟩
        | false =>
          obtain ⟨n, c, cs, g1, g2⟩ := hI
          exact ⟨n, c, cs, g1, fun Q hQ => by unfold bsT; exact pick_f hb (pick_t hl (pick_f hc (g2 Q hQ)))⟩
      | false =>
        obtain ⟨n, c, cs, g1, g2⟩ := hI
        exact ⟨n, c, cs, g1, fun Q hQ => by unfold bsT; exact pick_f hb (pick_f hl (g2 Q hQ))⟩
theorem p2_clm {i s g p : ByteArray} {A S : Value} {f t : Int} (hA : okAud A = true) (hS : okSc S = true) : [clm i s g p A S f t].all p2 = true := by
  have e1 := okAud_p1 hA
  have e2 := okSc_p1 hS
  show (List.all [_, _, _, _, _, _, _, _] p1 && true) = true
  simp only [List.all_cons, e1, e2]
  rfl
theorem rvW_p2 (L : List R3) : [rvW L].all p2 = true := by
  show (p2 (rvW L) && true) = true
  cases L <;> rfl
theorem someRVK : Tryz.f15.body.isSome = true := by kernel_rfl
theorem rvk_fn {i s g p : ByteArray} {A S : Value} {f t : Int} (hc : ClmOK i s g p A S f t) : ∀ (L : List R3), L.length ≤ 4 → (∀ x ∈ L, inId x.1 = true) → Made 15 [rvW L, clm i s g p A S f t, .int .i64 5] 53 5 3 := by
  intro L h4 hi
  obtain ⟨e, e4, he⟩ := ckr_fn L h4 hi
  have hcc := ccl_fn hc
  obtain ⟨_, _, _, _, hA, hS, _⟩ := hc
  rcases e4 with rfl | rfl | rfl | rfl
  · have hC : (SRvk L (clm i s g p A S f t)).cfg.OK Tryz.prog := ((spT_ok he (rvW_p2 L) rfl).or ((spT_ok hcc (p2_clm hA hS) rfl).or spIn_ok)).cfg
    by_cases ht : t ≤ 5
    · match L, h4, hC with
      | [], _, hC =>
        refine .inl ⟨0, (FnOK.ftree hC mixed Tryz.func15 someRVK (rv0 i s g p A S f t (fun q _ => q = ((0, 0, false), .int .i64 0))) (tqT_mk (tqT_mk (pick_t (decide_eq_true ht) rfl)))).mono ?_⟩
        intro v _ hv
        exact slT_f hv
      | [(x0, a0, u0)], _, hC => exact .inr ⟨1, 1, _, row_of (FnOK.ftree hC mixed Tryz.func15 someRVK (rv1 i s g p A S f t x0 a0 u0 (fun q o => q = ((1, 1, true), .int .i64 0) ∧ o = some (.cells ⟨([(x0, a0, u0)] : List R3).flatMap rvC⟩ 53 (0, 0)))) (tqT_mk (tqT_mk (pick_t (decide_eq_true ht) ⟨rfl, rfl⟩)))), okz_fl (L := [(x0, a0, u0)]) rfl (by decide)⟩
      | [(x0, a0, u0), (x1, a1, u1)], _, hC => exact .inr ⟨2, 2, _, row_of (FnOK.ftree hC mixed Tryz.func15 someRVK (rv2 i s g p A S f t x0 x1 a0 u0 a1 u1 (fun q o => q = ((2, 2, true), .int .i64 0) ∧ o = some (.cells ⟨([(x0, a0, u0), (x1, a1, u1)] : List R3).flatMap rvC⟩ 53 (0, 0)))) (tqT_mk (tqT_mk (pick_t (decide_eq_true ht) ⟨rfl, rfl⟩)))), okz_fl (L := [(x0, a0, u0), (x1, a1, u1)]) rfl (by decide)⟩
      | [(x0, a0, u0), (x1, a1, u1), (x2, a2, u2)], _, hC => exact .inr ⟨3, 3, _, row_of (FnOK.ftree hC mixed Tryz.func15 someRVK (rv3 i s g p A S f t x0 x1 x2 a0 u0 a1 u1 a2 u2 (fun q o => q = ((3, 3, true), .int .i64 0) ∧ o = some (.cells ⟨([(x0, a0, u0), (x1, a1, u1), (x2, a2, u2)] : List R3).flatMap rvC⟩ 53 (0, 0)))) (tqT_mk (tqT_mk (pick_t (decide_eq_true ht) ⟨rfl, rfl⟩)))), okz_fl (L := [(x0, a0, u0), (x1, a1, u1), (x2, a2, u2)]) rfl (by decide)⟩
      | [(x0, a0, u0), (x1, a1, u1), (x2, a2, u2), (x3, a3, u3)], _, hC => exact .inr ⟨4, 4, _, row_of (FnOK.ftree hC mixed Tryz.func15 someRVK (rv4 i s g p A S f t x0 x1 x2 x3 a0 u0 a1 u1 a2 u2 a3 u3 (fun q o => q = ((4, 4, true), .int .i64 0) ∧ o = some (.cells ⟨([(x0, a0, u0), (x1, a1, u1), (x2, a2, u2), (x3, a3, u3)] : List R3).flatMap rvC⟩ 53 (0, 0)))) (tqT_mk (tqT_mk (pick_t (decide_eq_true ht) ⟨rfl, rfl⟩)))), okz_fl (L := [(x0, a0, u0), (x1, a1, u1), (x2, a2, u2), (x3, a3, u3)]) rfl (by decide)⟩
      | _ :: _ :: _ :: _ :: _ :: _, h, _ => exact absurd h (by simp)
    · obtain ⟨n, c, cs, g1, g2⟩ := bsT_ex L i t h4 5 0 L.length (by omega) (Nat.zero_le _) (Nat.le_refl _)
      match L, h4, hC, g2 with
      | [], _, hC, _ => exact .inr ⟨1, 1, _, row_of (FnOK.ftree hC mixed Tryz.func15 someRVK (rv0 i s g p A S f t (fun q o => q = ((1, 1, true), .int .i64 0) ∧ o = some (.cells ⟨rvC (i, (5, t))⟩ 53 (0, 0)))) (tqT_mk (tqT_mk (pick_f (decide_eq_false ht) ⟨rfl, rfl⟩)))), ⟨by decide, Nat.le_refl _, List.all_eq_true.1 rfl⟩⟩
      | [(x0, a0, u0)], _, hC, g2 => exact .inr ⟨n, c, cs, row_of (FnOK.ftree hC mixed Tryz.func15 someRVK (rv1 i s g p A S f t x0 a0 u0 (fun q o => q = ((n, c, true), .int .i64 0) ∧ o = some (.cells ⟨cs⟩ 53 (0, 0)))) (tqT_mk (tqT_mk (pick_f (decide_eq_false ht) (g2 _ ⟨rfl, rfl⟩))))), g1⟩
      | [(x0, a0, u0), (x1, a1, u1)], _, hC, g2 => exact .inr ⟨n, c, cs, row_of (FnOK.ftree hC mixed Tryz.func15 someRVK (rv2 i s g p A S f t x0 x1 a0 u0 a1 u1 (fun q o => q = ((n, c, true), .int .i64 0) ∧ o = some (.cells ⟨cs⟩ 53 (0, 0)))) (tqT_mk (tqT_mk (pick_f (decide_eq_false ht) (g2 _ ⟨rfl, rfl⟩))))), g1⟩
      | [(x0, a0, u0), (x1, a1, u1), (x2, a2, u2)], _, hC, g2 => exact .inr ⟨n, c, cs, row_of (FnOK.ftree hC mixed Tryz.func15 someRVK (rv3 i s g p A S f t x0 x1 x2 a0 u0 a1 u1 a2 u2 (fun q o => q = ((n, c, true), .int .i64 0) ∧ o = some (.cells ⟨cs⟩ 53 (0, 0)))) (tqT_mk (tqT_mk (pick_f (decide_eq_false ht) (g2 _ ⟨rfl, rfl⟩))))), g1⟩
      | [(x0, a0, u0), (x1, a1, u1), (x2, a2, u2), (x3, a3, u3)], _, hC, g2 => exact .inr ⟨n, c, cs, row_of (FnOK.ftree hC mixed Tryz.func15 someRVK (rv4 i s g p A S f t x0 x1 x2 x3 a0 u0 a1 u1 a2 u2 a3 u3 (fun q o => q = ((n, c, true), .int .i64 0) ∧ o = some (.cells ⟨cs⟩ 53 (0, 0)))) (tqT_mk (tqT_mk (pick_f (decide_eq_false ht) (g2 _ ⟨rfl, rfl⟩))))), g1⟩
      | _ :: _ :: _ :: _ :: _ :: _, h, _, _ => exact absurd h (by simp)
  · exact .inl ⟨1, FnOK.ftree (SPru_ok he) mixed Tryz.func15 someRVK (rvE1 L i s g p A S f t (fun v => v = .tuple ⟨[.slice none 0 0, .int .i64 1]⟩)) (tqT_mk rfl)⟩
  · exact .inl ⟨5, FnOK.ftree (SPru_ok he) mixed Tryz.func15 someRVK (rvE5 L i s g p A S f t (fun v => v = .tuple ⟨[.slice none 0 0, .int .i64 5]⟩)) (tqT_mk rfl)⟩
  · exact .inl ⟨7, FnOK.ftree (SPru_ok he) mixed Tryz.func15 someRVK (rvE7 L i s g p A S f t (fun v => v = .tuple ⟨[.slice none 0 0, .int .i64 7]⟩)) (tqT_mk rfl)⟩
end Go.Proofs.YtklednomnpghcaaGreatDoor
