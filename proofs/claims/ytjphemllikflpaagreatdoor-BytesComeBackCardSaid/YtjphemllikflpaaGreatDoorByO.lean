/-
  Bytes: what stands behind the first line.
-/
import Derived.Test.YtjphemllikflpaaGreatDoorByU
namespace Go.Proofs.YtjphemllikflpaaGreatDoor
open Go.Ev Go.RowKit RecLaw PathLaw QueryLaw BytesLaw

def clNb : ByteArray := ⟨#[99, 111, 110, 116, 101, 110, 116, 45, 108, 101, 110, 103, 116, 104]⟩
def teNb : ByteArray := ⟨#[116, 114, 97, 110, 115, 102, 101, 114, 45, 101, 110, 99, 111, 100, 105, 110, 103]⟩
/-- What is told: the answers, the length. -/
noncomputable def SRs (ho : List Value) (c : ByteArray) (n : Int) : SC := ⟨idn, spOr (spVl ho [.string c]) (spOr (spT 114 [.string c] (.bool true)) (spOr (spT 107 [.string c] (.tuple ⟨[.int .i64 n, .bool true]⟩)) spDh)), false, true⟩
noncomputable def SRn (ho : List Value) : SC := ⟨idn, spOr (spVl ho []) spDh, false, true⟩
theorem SRn_ok (ho : List Value) : (SRn ho).cfg.OK Tryz.prog := ((spVl_ok ho []).or spDh_ok).cfg
theorem SRs_ok (ho : List Value) {t : Nat × Bs} (h : t ∈ lnL) : (SRs ho (bl t.2) (t.1 : Int)).cfg.OK Tryz.prog :=
  ((spVl_ok ho [.string (bl t.2)]).or ((spT_ok (xs := [strV t.2]) (ln_fn h) rfl rfl).or ((spT_ok (xs := [strV t.2]) (sm_fn h) rfl rfl).or spDh_ok))).cfg
noncomputable def vlT (H ho cl : List Value) (k : ByteArray) (X : Prop) : Prop := bif okVl H k (ansV ho cl k) then X else False
noncomputable def tqT (a : List Value) (X : Prop) : Prop := bif tq a a then X else False
def REG : Nat := 7
def ghR : LS := freezeG 44 true 2 [6]
noncomputable def rsE (Q : Value → Prop) (e : Int) : Prop := Q (.tuple ⟨[.slice none 0 0, .string ⟨#[]⟩, .int .i64 0, .int .i64 e]⟩)
/-- The end: the row without the headers of the length. -/
noncomputable def rsF (cs : List Value) (m : Nat) (b : ByteArray) (e : Int) (Q : Value → Prop) : Prop :=
  bif okC m cs && true then
    bif ((true && Nat.beq (nfB (unC cs)).length (nfB (unC cs)).length && Nat.beq (nfB (unC cs)).length (nfB (unC cs)).length) && true) && ((nfB (unC cs)).flatMap prC).all p1 && Nat.ble (nfB (unC cs)).length (nfB (unC cs)).length && Nat.ble ((nfB (unC cs)).length * 2) (Array.mk ((nfB (unC cs)).flatMap prC)).size && true then
      Q (.tuple ⟨[fz ⟨chunk true 2 (nfB (unC cs)).length ((nfB (unC cs)).flatMap prC)⟩, .string b, .int .i64 e, .int .i64 0]⟩)
    else False else False
noncomputable def rsS (H ho : List Value) (s c : ByteArray) (a n k : Int) (m : Nat) (cs : List Value) (Q : Value → Prop) : Prop :=
  vlT H ho [.string c] clNb (vlT H ho [.string c] teNb (bif decide (k > 1) then rsE Q 6 else tqT [.string c] (frS s a fun x => vlT H ho [.string c] teNb (vlT H ho [.string c] clNb (tqT [.string c]
    (bif decide (n > 20000) then rsE Q 2 else bif decide (n > (x.size : Int)) then rsE Q 9 else bif decide (0 ≤ n) && decide (n ≤ (x.size : Int)) then rsF cs m (x.extract 0 n.toNat) (W (a + n)) Q else False))))))
noncomputable def rsN (H ho : List Value) (s : ByteArray) (a k : Int) (m : Nat) (cs : List Value) (Q : Value → Prop) : Prop :=
  vlT H ho [] clNb (vlT H ho [] teNb (bif decide (k > 1) then rsE Q 6 else frS s a fun _ => vlT H ho [] teNb (vlT H ho [] clNb (rsF cs m ⟨#[]⟩ (W (a + 0)) Q))))
theorem rss1 (F s c a0 b0 : ByteArray) (a n k : Int) (ho : List Value) (Q : Value → Prop) : tfn Tryz.prog (SRs ho c n) [] (ghost1 7 ghR) 3000 [] Tryz.f40 [.agg ⟨[.string F, fz ⟨[.agg ⟨[.string a0, .string b0]⟩]⟩, .int .i64 a]⟩, .string s, .int .i64 k] h0 (fun v _ => Q v) =
    rsS [.agg ⟨[.string a0, .string b0]⟩] ho s c a n k 1 [.string a0, .string b0] Q := by kernel_rfl
theorem rss2 (F s c a0 b0 a1 b1 : ByteArray) (a n k : Int) (ho : List Value) (Q : Value → Prop) : tfn Tryz.prog (SRs ho c n) [] (ghost1 7 ghR) 3000 [] Tryz.f40 [.agg ⟨[.string F, fz ⟨[.agg ⟨[.string a0, .string b0]⟩, .agg ⟨[.string a1, .string b1]⟩]⟩, .int .i64 a]⟩, .string s, .int .i64 k] h0 (fun v _ => Q v) =
    rsS [.agg ⟨[.string a0, .string b0]⟩, .agg ⟨[.string a1, .string b1]⟩] ho s c a n k 2 [.string a0, .string b0, .string a1, .string b1] Q := by kernel_rfl
theorem rss3 (F s c a0 b0 a1 b1 a2 b2 : ByteArray) (a n k : Int) (ho : List Value) (Q : Value → Prop) : tfn Tryz.prog (SRs ho c n) [] (ghost1 7 ghR) 3000 [] Tryz.f40 [.agg ⟨[.string F, fz ⟨[.agg ⟨[.string a0, .string b0]⟩, .agg ⟨[.string a1, .string b1]⟩, .agg ⟨[.string a2, .string b2]⟩]⟩, .int .i64 a]⟩, .string s, .int .i64 k] h0 (fun v _ => Q v) =
    rsS [.agg ⟨[.string a0, .string b0]⟩, .agg ⟨[.string a1, .string b1]⟩, .agg ⟨[.string a2, .string b2]⟩] ho s c a n k 3 [.string a0, .string b0, .string a1, .string b1, .string a2, .string b2] Q := by kernel_rfl
theorem rss4 (F s c a0 b0 a1 b1 a2 b2 a3 b3 : ByteArray) (a n k : Int) (ho : List Value) (Q : Value → Prop) : tfn Tryz.prog (SRs ho c n) [] (ghost1 7 ghR) 3000 [] Tryz.f40 [.agg ⟨[.string F, fz ⟨[.agg ⟨[.string a0, .string b0]⟩, .agg ⟨[.string a1, .string b1]⟩, .agg ⟨[.string a2, .string b2]⟩, .agg ⟨[.string a3, .string b3]⟩]⟩, .int .i64 a]⟩, .string s, .int .i64 k] h0 (fun v _ => Q v) =
    rsS [.agg ⟨[.string a0, .string b0]⟩, .agg ⟨[.string a1, .string b1]⟩, .agg ⟨[.string a2, .string b2]⟩, .agg ⟨[.string a3, .string b3]⟩] ho s c a n k 4 [.string a0, .string b0, .string a1, .string b1, .string a2, .string b2, .string a3, .string b3] Q := by kernel_rfl
theorem rss5 (F s c a0 b0 a1 b1 a2 b2 a3 b3 a4 b4 : ByteArray) (a n k : Int) (ho : List Value) (Q : Value → Prop) : tfn Tryz.prog (SRs ho c n) [] (ghost1 7 ghR) 3000 [] Tryz.f40 [.agg ⟨[.string F, fz ⟨[.agg ⟨[.string a0, .string b0]⟩, .agg ⟨[.string a1, .string b1]⟩, .agg ⟨[.string a2, .string b2]⟩, .agg ⟨[.string a3, .string b3]⟩, .agg ⟨[.string a4, .string b4]⟩]⟩, .int .i64 a]⟩, .string s, .int .i64 k] h0 (fun v _ => Q v) =
    rsS [.agg ⟨[.string a0, .string b0]⟩, .agg ⟨[.string a1, .string b1]⟩, .agg ⟨[.string a2, .string b2]⟩, .agg ⟨[.string a3, .string b3]⟩, .agg ⟨[.string a4, .string b4]⟩] ho s c a n k 5 [.string a0, .string b0, .string a1, .string b1, .string a2, .string b2, .string a3, .string b3, .string a4, .string b4] Q := by kernel_rfl
theorem rss6 (F s c a0 b0 a1 b1 a2 b2 a3 b3 a4 b4 a5 b5 : ByteArray) (a n k : Int) (ho : List Value) (Q : Value → Prop) : tfn Tryz.prog (SRs ho c n) [] (ghost1 7 ghR) 3000 [] Tryz.f40 [.agg ⟨[.string F, fz ⟨[.agg ⟨[.string a0, .string b0]⟩, .agg ⟨[.string a1, .string b1]⟩, .agg ⟨[.string a2, .string b2]⟩, .agg ⟨[.string a3, .string b3]⟩, .agg ⟨[.string a4, .string b4]⟩, .agg ⟨[.string a5, .string b5]⟩]⟩, .int .i64 a]⟩, .string s, .int .i64 k] h0 (fun v _ => Q v) =
    rsS [.agg ⟨[.string a0, .string b0]⟩, .agg ⟨[.string a1, .string b1]⟩, .agg ⟨[.string a2, .string b2]⟩, .agg ⟨[.string a3, .string b3]⟩, .agg ⟨[.string a4, .string b4]⟩, .agg ⟨[.string a5, .string b5]⟩] ho s c a n k 6 [.string a0, .string b0, .string a1, .string b1, .string a2, .string b2, .string a3, .string b3, .string a4, .string b4, .string a5, .string b5] Q := by kernel_rfl
theorem rsn1 (F s a0 b0 : ByteArray) (a k : Int) (ho : List Value) (Q : Value → Prop) : tfn Tryz.prog (SRn ho) [] (ghost1 7 ghR) 3000 [] Tryz.f40 [.agg ⟨[.string F, fz ⟨[.agg ⟨[.string a0, .string b0]⟩]⟩, .int .i64 a]⟩, .string s, .int .i64 k] h0 (fun v _ => Q v) =
    rsN [.agg ⟨[.string a0, .string b0]⟩] ho s a k 1 [.string a0, .string b0] Q := by kernel_rfl
theorem rsn2 (F s a0 b0 a1 b1 : ByteArray) (a k : Int) (ho : List Value) (Q : Value → Prop) : tfn Tryz.prog (SRn ho) [] (ghost1 7 ghR) 3000 [] Tryz.f40 [.agg ⟨[.string F, fz ⟨[.agg ⟨[.string a0, .string b0]⟩, .agg ⟨[.string a1, .string b1]⟩]⟩, .int .i64 a]⟩, .string s, .int .i64 k] h0 (fun v _ => Q v) =
    rsN [.agg ⟨[.string a0, .string b0]⟩, .agg ⟨[.string a1, .string b1]⟩] ho s a k 2 [.string a0, .string b0, .string a1, .string b1] Q := by kernel_rfl
theorem rsn3 (F s a0 b0 a1 b1 a2 b2 : ByteArray) (a k : Int) (ho : List Value) (Q : Value → Prop) : tfn Tryz.prog (SRn ho) [] (ghost1 7 ghR) 3000 [] Tryz.f40 [.agg ⟨[.string F, fz ⟨[.agg ⟨[.string a0, .string b0]⟩, .agg ⟨[.string a1, .string b1]⟩, .agg ⟨[.string a2, .string b2]⟩]⟩, .int .i64 a]⟩, .string s, .int .i64 k] h0 (fun v _ => Q v) =
    rsN [.agg ⟨[.string a0, .string b0]⟩, .agg ⟨[.string a1, .string b1]⟩, .agg ⟨[.string a2, .string b2]⟩] ho s a k 3 [.string a0, .string b0, .string a1, .string b1, .string a2, .string b2] Q := by kernel_rfl
theorem rsn4 (F s a0 b0 a1 b1 a2 b2 a3 b3 : ByteArray) (a k : Int) (ho : List Value) (Q : Value → Prop) : tfn Tryz.prog (SRn ho) [] (ghost1 7 ghR) 3000 [] Tryz.f40 [.agg ⟨[.string F, fz ⟨[.agg ⟨[.string a0, .string b0]⟩, .agg ⟨[.string a1, .string b1]⟩, .agg ⟨[.string a2, .string b2]⟩, .agg ⟨[.string a3, .string b3]⟩]⟩, .int .i64 a]⟩, .string s, .int .i64 k] h0 (fun v _ => Q v) =
    rsN [.agg ⟨[.string a0, .string b0]⟩, .agg ⟨[.string a1, .string b1]⟩, .agg ⟨[.string a2, .string b2]⟩, .agg ⟨[.string a3, .string b3]⟩] ho s a k 4 [.string a0, .string b0, .string a1, .string b1, .string a2, .string b2, .string a3, .string b3] Q := by kernel_rfl
theorem rsn5 (F s a0 b0 a1 b1 a2 b2 a3 b3 a4 b4 : ByteArray) (a k : Int) (ho : List Value) (Q : Value → Prop) : tfn Tryz.prog (SRn ho) [] (ghost1 7 ghR) 3000 [] Tryz.f40 [.agg ⟨[.string F, fz ⟨[.agg ⟨[.string a0, .string b0]⟩, .agg ⟨[.string a1, .string b1]⟩, .agg ⟨[.string a2, .string b2]⟩, .agg ⟨[.string a3, .string b3]⟩, .agg ⟨[.string a4, .string b4]⟩]⟩, .int .i64 a]⟩, .string s, .int .i64 k] h0 (fun v _ => Q v) =
    rsN [.agg ⟨[.string a0, .string b0]⟩, .agg ⟨[.string a1, .string b1]⟩, .agg ⟨[.string a2, .string b2]⟩, .agg ⟨[.string a3, .string b3]⟩, .agg ⟨[.string a4, .string b4]⟩] ho s a k 5 [.string a0, .string b0, .string a1, .string b1, .string a2, .string b2, .string a3, .string b3, .string a4, .string b4] Q := by kernel_rfl
theorem someRST : Tryz.f40.body.isSome = true := by kernel_rfl
theorem gh7 : LoopsOK 0 Tryz.prog 44 (ghost1 7 ghR) (codeOf Tryz.f40) := ghosts_one (by kernel_rfl) (freezeG_ok _ _ _ _ _ _)
theorem vlT_mk {L : List (Bs × Bs)} (hL : HdN L) {ho cl : List Value} {k : ByteArray} (hk : k.data.toList ∈ askS) (ha : ansV ho cl k = (valB k.data.toList L).map strV) {X : Prop} (hX : X) : vlT (L.map prV) ho cl k X :=
  need_mk (okVl_iff.2 ⟨L, hL, rfl, hk, ha⟩) hX
theorem tqT_mk {a : List Value} {X : Prop} (hX : X) : tqT a X := need_mk (tq_eq rfl) hX
theorem rsF_ok {L : List (Bs × Bs)} (hL : HdN L) {b : ByteArray} {e : Int} {Q : Value → Prop} (hQ : Q (.tuple ⟨[fz ⟨(nfB L).map prV⟩, .string b, .int .i64 e, .int .i64 0]⟩)) : rsF (L.flatMap prC) L.length b e Q := by
  unfold rsF
  rw [unC_pr, chunk_pr]
  refine need_mk (by rw [okC_iff.2 ⟨L, hL, rfl, rfl⟩]; rfl) (need_mk ?_ hQ)
  have h1 : ((nfB L).flatMap prC).all p1 = true := List.all_eq_true.2 fun x hx => p1_prC x hx
  have h2 : Nat.ble ((nfB L).length * 2) (Array.mk ((nfB L).flatMap prC)).size = true := by
    rw [Nat.ble_eq]; show _ ≤ ((nfB L).flatMap prC).length; rw [prC_len]; exact Nat.le_refl _
  rw [h1, h2, Nat.beq_refl, Nat.ble_eq_true_of_le (Nat.le_refl _)]; rfl
theorem clNb_eq : clNb.data.toList = clN := by decide
theorem teNb_eq : teNb.data.toList = teN := by decide
theorem rsS_ok {L : List (Bs × Bs)} (hL : HdN L) {ho : List Value} {pre bd more : Bs} {t : Nat × Bs} (ht : t.1 = bd.length) (h1 : valB clN L = [t.2]) (h2 : valB teN L = []) (hb : bd.length ≤ 1000) (hp : pre.length ≤ 10000) {k : Int} (hk : k ≤ 1) {Q : Value → Prop}
    (hQ : Q (.tuple ⟨[fz ⟨(nfB L).map prV⟩, strV bd, .int .i64 ((pre ++ bd).length : Int), .int .i64 0]⟩)) : rsS (L.map prV) ho (bl (pre ++ (bd ++ more))) (bl t.2) ((pre.length : Nat) : Int) (t.1 : Int) k L.length (L.flatMap prC) Q := by
  have v1 : ∀ {X : Prop}, X → vlT (L.map prV) ho [.string (bl t.2)] clNb X := fun hX => vlT_mk hL (by rw [clNb_eq]; exact host_ok.2.2.2.1) (by rw [clNb_eq, h1]; rfl) hX
  have v2 : ∀ {X : Prop}, X → vlT (L.map prV) ho [.string (bl t.2)] teNb X := fun hX => vlT_mk hL (by rw [teNb_eq]; exact host_ok.2.2.2.2.1) (by rw [teNb_eq, h2]; rfl) hX
  have w1 : W ((pre.length : Int) + (bd.length : Int)) = ((pre ++ bd).length : Int) := by rw [w_add (by omega), List.length_append]
  have e1 : (bl (bd ++ more)).extract 0 bd.length = bl bd := by
    rw [bl_cut _ _ _ (by rw [List.length_append]; omega), List.drop_zero, List.take_left]
  refine v1 (v2 (pick_f (decide_eq_false (by omega)) (tqT_mk (frS_ok (v2 (v1 (tqT_mk ?_)))))))
  rw [ht, bl_size, w1, Int.toNat_natCast, e1]
  refine pick_f (decide_eq_false (by omega)) (pick_f (decide_eq_false (by rw [List.length_append]; omega)) (need_mk ?_ (rsF_ok hL hQ)))
  rw [List.length_append]
  simp only [Bool.and_eq_true, decide_eq_true_eq]
  omega
theorem rsN_ok {L : List (Bs × Bs)} (hL : HdN L) {ho : List Value} {pre more : Bs} (h1 : valB clN L = []) (h2 : valB teN L = []) (hp : pre.length ≤ 10000) {k : Int} (hk : k ≤ 1) {Q : Value → Prop}
    (hQ : Q (.tuple ⟨[fz ⟨(nfB L).map prV⟩, strV [], .int .i64 (pre.length : Int), .int .i64 0]⟩)) : rsN (L.map prV) ho (bl (pre ++ more)) ((pre.length : Nat) : Int) k L.length (L.flatMap prC) Q := by
  have v1 : ∀ {X : Prop}, X → vlT (L.map prV) ho [] clNb X := fun hX => vlT_mk hL (by rw [clNb_eq]; exact host_ok.2.2.2.1) (by rw [clNb_eq, h1]; rfl) hX
  have v2 : ∀ {X : Prop}, X → vlT (L.map prV) ho [] teNb X := fun hX => vlT_mk hL (by rw [teNb_eq]; exact host_ok.2.2.2.2.1) (by rw [teNb_eq, h2]; rfl) hX
  have w1 : W ((pre.length : Int) + 0) = (pre.length : Int) := by rw [Int.add_zero]; exact wrap_id _ (by omega) (by omega)
  refine v1 (v2 (pick_f (decide_eq_false (by omega)) (frS_ok (v2 (v1 ?_)))))
  rw [w1]
  exact rsF_ok hL hQ
theorem rst_s (F : ByteArray) {pre bd more : Bs} {t : Nat × Bs} (hm : t ∈ lnL) (ht : t.1 = bd.length) (hb : bd.length ≤ 1000) (hp : pre.length ≤ 10000) {k : Int} (hk : k ≤ 1) : ∀ (L : List (Bs × Bs)), HdN L → valB clN L = [t.2] → valB teN L = [] →
    FnOK 0 Tryz.prog 40 ⟨[.agg ⟨[.string F, fz ⟨L.map prV⟩, .int .i64 (pre.length : Int)]⟩, .string (bl (pre ++ (bd ++ more))), .int .i64 k]⟩ h0 (fun v _ => v = .tuple ⟨[fz ⟨(nfB L).map prV⟩, strV bd, .int .i64 ((pre ++ bd).length : Int), .int .i64 0]⟩)
  | [], h, _, _ => absurd rfl h.1
  | [p0], hL, h1, h2 => FnOK.ttree (SRs_ok [] hm) mixed Tryz.func40 someRST gh7 (rss1 F (bl (pre ++ (bd ++ more))) (bl t.2) (bl p0.1) (bl p0.2) (pre.length : Int) (t.1 : Int) k [] (fun v => v = .tuple ⟨[fz ⟨(nfB [p0]).map prV⟩, strV bd, .int .i64 ((pre ++ bd).length : Int), .int .i64 0]⟩)) (rsS_ok hL ht h1 h2 hb hp hk rfl)
  | [p0, p1], hL, h1, h2 => FnOK.ttree (SRs_ok [] hm) mixed Tryz.func40 someRST gh7 (rss2 F (bl (pre ++ (bd ++ more))) (bl t.2) (bl p0.1) (bl p0.2) (bl p1.1) (bl p1.2) (pre.length : Int) (t.1 : Int) k [] (fun v => v = .tuple ⟨[fz ⟨(nfB [p0, p1]).map prV⟩, strV bd, .int .i64 ((pre ++ bd).length : Int), .int .i64 0]⟩)) (rsS_ok hL ht h1 h2 hb hp hk rfl)
  | [p0, p1, p2], hL, h1, h2 => FnOK.ttree (SRs_ok [] hm) mixed Tryz.func40 someRST gh7 (rss3 F (bl (pre ++ (bd ++ more))) (bl t.2) (bl p0.1) (bl p0.2) (bl p1.1) (bl p1.2) (bl p2.1) (bl p2.2) (pre.length : Int) (t.1 : Int) k [] (fun v => v = .tuple ⟨[fz ⟨(nfB [p0, p1, p2]).map prV⟩, strV bd, .int .i64 ((pre ++ bd).length : Int), .int .i64 0]⟩)) (rsS_ok hL ht h1 h2 hb hp hk rfl)
  | [p0, p1, p2, p3], hL, h1, h2 => FnOK.ttree (SRs_ok [] hm) mixed Tryz.func40 someRST gh7 (rss4 F (bl (pre ++ (bd ++ more))) (bl t.2) (bl p0.1) (bl p0.2) (bl p1.1) (bl p1.2) (bl p2.1) (bl p2.2) (bl p3.1) (bl p3.2) (pre.length : Int) (t.1 : Int) k [] (fun v => v = .tuple ⟨[fz ⟨(nfB [p0, p1, p2, p3]).map prV⟩, strV bd, .int .i64 ((pre ++ bd).length : Int), .int .i64 0]⟩)) (rsS_ok hL ht h1 h2 hb hp hk rfl)
  | [p0, p1, p2, p3, p4], hL, h1, h2 => FnOK.ttree (SRs_ok [] hm) mixed Tryz.func40 someRST gh7 (rss5 F (bl (pre ++ (bd ++ more))) (bl t.2) (bl p0.1) (bl p0.2) (bl p1.1) (bl p1.2) (bl p2.1) (bl p2.2) (bl p3.1) (bl p3.2) (bl p4.1) (bl p4.2) (pre.length : Int) (t.1 : Int) k [] (fun v => v = .tuple ⟨[fz ⟨(nfB [p0, p1, p2, p3, p4]).map prV⟩, strV bd, .int .i64 ((pre ++ bd).length : Int), .int .i64 0]⟩)) (rsS_ok hL ht h1 h2 hb hp hk rfl)
  | [p0, p1, p2, p3, p4, p5], hL, h1, h2 => FnOK.ttree (SRs_ok [] hm) mixed Tryz.func40 someRST gh7 (rss6 F (bl (pre ++ (bd ++ more))) (bl t.2) (bl p0.1) (bl p0.2) (bl p1.1) (bl p1.2) (bl p2.1) (bl p2.2) (bl p3.1) (bl p3.2) (bl p4.1) (bl p4.2) (bl p5.1) (bl p5.2) (pre.length : Int) (t.1 : Int) k [] (fun v => v = .tuple ⟨[fz ⟨(nfB [p0, p1, p2, p3, p4, p5]).map prV⟩, strV bd, .int .i64 ((pre ++ bd).length : Int), .int .i64 0]⟩)) (rsS_ok hL ht h1 h2 hb hp hk rfl)
  | _ :: _ :: _ :: _ :: _ :: _ :: _ :: _, h, _, _ => absurd h.2.1 (by simp)
theorem rst_n (F : ByteArray) {pre more : Bs} (hp : pre.length ≤ 10000) {k : Int} (hk : k ≤ 1) : ∀ (L : List (Bs × Bs)), HdN L → L.length ≤ 5 → valB clN L = [] → valB teN L = [] →
    FnOK 0 Tryz.prog 40 ⟨[.agg ⟨[.string F, fz ⟨L.map prV⟩, .int .i64 (pre.length : Int)]⟩, .string (bl (pre ++ more)), .int .i64 k]⟩ h0 (fun v _ => v = .tuple ⟨[fz ⟨(nfB L).map prV⟩, strV [], .int .i64 (pre.length : Int), .int .i64 0]⟩)
  | [], h, _, _, _ => absurd rfl h.1
  | [p0], hL, _, h1, h2 => FnOK.ttree (SRn_ok []) mixed Tryz.func40 someRST gh7 (rsn1 F (bl (pre ++ more)) (bl p0.1) (bl p0.2) (pre.length : Int) k [] (fun v => v = .tuple ⟨[fz ⟨(nfB [p0]).map prV⟩, strV [], .int .i64 (pre.length : Int), .int .i64 0]⟩)) (rsN_ok hL h1 h2 hp hk rfl)
  | [p0, p1], hL, _, h1, h2 => FnOK.ttree (SRn_ok []) mixed Tryz.func40 someRST gh7 (rsn2 F (bl (pre ++ more)) (bl p0.1) (bl p0.2) (bl p1.1) (bl p1.2) (pre.length : Int) k [] (fun v => v = .tuple ⟨[fz ⟨(nfB [p0, p1]).map prV⟩, strV [], .int .i64 (pre.length : Int), .int .i64 0]⟩)) (rsN_ok hL h1 h2 hp hk rfl)
  | [p0, p1, p2], hL, _, h1, h2 => FnOK.ttree (SRn_ok []) mixed Tryz.func40 someRST gh7 (rsn3 F (bl (pre ++ more)) (bl p0.1) (bl p0.2) (bl p1.1) (bl p1.2) (bl p2.1) (bl p2.2) (pre.length : Int) k [] (fun v => v = .tuple ⟨[fz ⟨(nfB [p0, p1, p2]).map prV⟩, strV [], .int .i64 (pre.length : Int), .int .i64 0]⟩)) (rsN_ok hL h1 h2 hp hk rfl)
  | [p0, p1, p2, p3], hL, _, h1, h2 => FnOK.ttree (SRn_ok []) mixed Tryz.func40 someRST gh7 (rsn4 F (bl (pre ++ more)) (bl p0.1) (bl p0.2) (bl p1.1) (bl p1.2) (bl p2.1) (bl p2.2) (bl p3.1) (bl p3.2) (pre.length : Int) k [] (fun v => v = .tuple ⟨[fz ⟨(nfB [p0, p1, p2, p3]).map prV⟩, strV [], .int .i64 (pre.length : Int), .int .i64 0]⟩)) (rsN_ok hL h1 h2 hp hk rfl)
  | [p0, p1, p2, p3, p4], hL, _, h1, h2 => FnOK.ttree (SRn_ok []) mixed Tryz.func40 someRST gh7 (rsn5 F (bl (pre ++ more)) (bl p0.1) (bl p0.2) (bl p1.1) (bl p1.2) (bl p2.1) (bl p2.2) (bl p3.1) (bl p3.2) (bl p4.1) (bl p4.2) (pre.length : Int) k [] (fun v => v = .tuple ⟨[fz ⟨(nfB [p0, p1, p2, p3, p4]).map prV⟩, strV [], .int .i64 (pre.length : Int), .int .i64 0]⟩)) (rsN_ok hL h1 h2 hp hk rfl)
  | _ :: _ :: _ :: _ :: _ :: _ :: _, _, h, _, _ => absurd h (by simp)
end Go.Proofs.YtjphemllikflpaaGreatDoor
