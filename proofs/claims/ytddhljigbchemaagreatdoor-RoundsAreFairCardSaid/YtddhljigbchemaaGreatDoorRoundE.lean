/-
  Turns are fair: in the first round each has as many turns as its weight, and the second round is as the first; by trying all weights.
-/
import Derived.Test.YtddhljigbchemaaGreatDoorRoundD
namespace Go.Proofs.YtddhljigbchemaaGreatDoor
open Go.Ev Go.RowKit

def cntN (i : Nat) : List Nat → Nat
  | [] => 0
  | x :: l => cond (Nat.beq x i) (cntN i l + 1) (cntN i l)
def beqW : List Int → List Nat → Nat → Bool
  | [], _, _ => true
  | w :: ws, ts, i => Nat.beq (cntN i ts) w.toNat && beqW ws ts (i + 1)
def okTs (n s : Nat) (ws : List Int) (ts : List Nat) : Bool := beqN (ts.take s) (ts.drop s) && beqW ws (ts.take s) 0 && ts.all (fun x => Nat.blt x n)
def okWs (ws : List Int) : Bool := okTs ws.length (sumW ws).toNat ws (turns ws (sumW ws) (2 * (sumW ws).toNat) (List.replicate ws.length 0))
def four : List Int := [1, 2, 3, 5]
theorem all1 : (four.all fun a => okWs [a]) = true := by kernel_rfl
theorem all2 : (four.all fun a => four.all fun b => okWs [a, b]) = true := by kernel_rfl
theorem all3 : (four.all fun a => four.all fun b => four.all fun c => okWs [a, b, c]) = true := by kernel_rfl
theorem all4 : (four.all fun a => four.all fun b => four.all fun c => four.all fun d => okWs [a, b, c, d]) = true := by kernel_rfl
theorem wtV_four (r : Int) (h0 : 0 ≤ r) (h1 : r < 5) : wtV r ∈ four := by
  have : r = 0 ∨ r = 1 ∨ r = 2 ∨ r = 3 ∨ r = 4 := by omega
  rcases this with rfl | rfl | rfl | rfl | rfl <;> simp [wtV, four, toInt]
theorem four_in {w : Int} (h : w ∈ four) : 1 ≤ w ∧ w ≤ 5 := by
  simp only [four, List.mem_cons, List.not_mem_nil, or_false] at h
  omega

def kA : List ByteArray := [⟨#[105, 97]⟩, ⟨#[105, 98]⟩, ⟨#[105, 99]⟩, ⟨#[105, 100]⟩]
theorem dk00 : ((ByteArray.mk #[105, 97]).toList == (ByteArray.mk #[105, 97]).toList) = true := by kernel_rfl
theorem dk01 : ((ByteArray.mk #[105, 97]).toList == (ByteArray.mk #[105, 98]).toList) = false := by kernel_rfl
theorem dk02 : ((ByteArray.mk #[105, 97]).toList == (ByteArray.mk #[105, 99]).toList) = false := by kernel_rfl
theorem dk03 : ((ByteArray.mk #[105, 97]).toList == (ByteArray.mk #[105, 100]).toList) = false := by kernel_rfl
theorem dk10 : ((ByteArray.mk #[105, 98]).toList == (ByteArray.mk #[105, 97]).toList) = false := by kernel_rfl
theorem dk11 : ((ByteArray.mk #[105, 98]).toList == (ByteArray.mk #[105, 98]).toList) = true := by kernel_rfl
theorem dk12 : ((ByteArray.mk #[105, 98]).toList == (ByteArray.mk #[105, 99]).toList) = false := by kernel_rfl
theorem dk13 : ((ByteArray.mk #[105, 98]).toList == (ByteArray.mk #[105, 100]).toList) = false := by kernel_rfl
theorem dk20 : ((ByteArray.mk #[105, 99]).toList == (ByteArray.mk #[105, 97]).toList) = false := by kernel_rfl
theorem dk21 : ((ByteArray.mk #[105, 99]).toList == (ByteArray.mk #[105, 98]).toList) = false := by kernel_rfl
theorem dk22 : ((ByteArray.mk #[105, 99]).toList == (ByteArray.mk #[105, 99]).toList) = true := by kernel_rfl
theorem dk23 : ((ByteArray.mk #[105, 99]).toList == (ByteArray.mk #[105, 100]).toList) = false := by kernel_rfl
theorem dk30 : ((ByteArray.mk #[105, 100]).toList == (ByteArray.mk #[105, 97]).toList) = false := by kernel_rfl
theorem dk31 : ((ByteArray.mk #[105, 100]).toList == (ByteArray.mk #[105, 98]).toList) = false := by kernel_rfl
theorem dk32 : ((ByteArray.mk #[105, 100]).toList == (ByteArray.mk #[105, 99]).toList) = false := by kernel_rfl
theorem dk33 : ((ByteArray.mk #[105, 100]).toList == (ByteArray.mk #[105, 100]).toList) = true := by kernel_rfl

/-- Counting keys is counting places, where all keys differ. -/
theorem cnt_map (ks : List ByteArray) (k : ByteArray) (i n : Nat) (hd : ∀ j, j < n → ((ks.getD j ⟨#[]⟩).toList == k.toList) = Nat.beq j i) :
    ∀ l : List Nat, l.all (fun x => Nat.blt x n) = true → cntS k ((l.map fun b => ks.getD b ⟨#[]⟩).map Value.string) = (cntN i l : Int)
  | [], _ => rfl
  | x :: l, h => by
    simp only [List.all_cons, Bool.and_eq_true] at h
    have ih := cnt_map ks k i n hd l h.2
    have hx : x < n := by have := h.1; rw [Nat.blt, Nat.ble_eq] at this; exact this
    simp only [List.map_cons, cntS, cntN, toStr]
    rw [hd x hx, ih]
    cases Nat.beq x i <;> simp

structure RF (rs : List Value) (s : Nat) : Prop where
  str : rs.all isStr = true
  len : rs.length = 2 * s
  low : 1 ≤ s
  high : s ≤ 100
  eq : rs.take s = rs.drop s

theorem all_take {l : List Value} (h : l.all isStr = true) (a b : Nat) : ((l.drop b).take a).all isStr = true := by
  rw [List.all_eq_true] at h ⊢
  exact fun x hx => h x (List.mem_of_mem_drop (List.mem_of_mem_take hx))
theorem get_one {l : List Value} (h : l.all isStr = true) {i : Nat} (hi : i < l.length) : ((Array.mk l).toList.getD i undef).cells.size.beq 1 = true := by
  have : (Array.mk l).toList.getD i undef = l[i] := by simp [List.getD, hi]
  rw [this]
  have := List.all_eq_true.1 h l[i] (List.getElem_mem hi)
  cases hl : l[i] <;> rw [hl] at this <;> first | rfl | cases this

section
variable {rs : List Value} {s : Nat} (h : RF rs s)
include h
theorem RF.a : (decide (0 ≤ (s : Int)) && decide ((s : Int) ≤ Int.ofNat (Array.mk rs).size) && (decide (0 = (s : Int)) || ((Array.mk rs).toList.getD 0 undef).cells.size.beq 1)) = true := by
  have h1 := h.len
  have h2 := h.low
  rw [get_one h.str (show 0 < rs.length by omega)]
  simp
  omega
theorem RF.b : ((List.take ((s : Int).toNat - 0) (List.drop 0 (Array.mk rs).toList)).all isStr && decide (Int.ofNat (Array.mk (List.take ((s : Int).toNat - 0) (List.drop 0 (Array.mk rs).toList))).size = Int.ofNat (List.take ((s : Int).toNat - 0) (List.drop 0 (Array.mk rs).toList)).length) && true && true &&
    (List.take ((s : Int).toNat - 0) (List.drop 0 (Array.mk rs).toList)).length.ble 4000) = true := by
  have h1 := h.len
  have h2 := h.high
  rw [show (Array.mk rs).toList = rs from rfl, all_take h.str]
  have : (List.take ((s : Int).toNat - 0) (List.drop 0 rs)).length.ble 4000 = true := by rw [Nat.ble_eq]; simp; omega
  rw [this]
  simp
theorem RF.a2 : (decide (0 ≤ (s : Int)) && decide ((s : Int) ≤ Int.ofNat (Array.mk rs).size) && decide (Int.ofNat (Array.mk rs).size ≤ Int.ofNat (Array.mk rs).size) && (decide ((s : Int) = Int.ofNat (Array.mk rs).size) || ((Array.mk rs).toList.getD (s : Int).toNat undef).cells.size.beq 1)) = true := by
  have h1 := h.len
  have h2 := h.low
  rw [Int.toNat_natCast, get_one h.str (show s < rs.length by omega)]
  simp
  omega
theorem RF.b2 : ((List.take ((s : Int).toNat - 0) (List.drop 0 (Array.mk rs).toList)).all isStr && (List.take ((Int.ofNat (Array.mk rs).size).toNat - (s : Int).toNat) (List.drop (s : Int).toNat (Array.mk rs).toList)).all isStr &&
    (List.take ((s : Int).toNat - 0) (List.drop 0 (Array.mk rs).toList)).length.ble 4000) = true := by
  have h1 := h.len
  have h2 := h.high
  rw [show (Array.mk rs).toList = rs from rfl, all_take h.str, all_take h.str]
  have : (List.take ((s : Int).toNat - 0) (List.drop 0 rs)).length.ble 4000 = true := by rw [Nat.ble_eq]; simp; omega
  rw [this]; rfl
theorem RF.e : eqS (List.take ((s : Int).toNat - 0) (List.drop 0 (Array.mk rs).toList)) (List.take ((Int.ofNat (Array.mk rs).size).toNat - (s : Int).toNat) (List.drop (s : Int).toNat (Array.mk rs).toList)) = true := by
  have e1 : List.take ((s : Int).toNat - 0) (List.drop 0 (Array.mk rs).toList) = rs.take s := by simp
  have e2 : List.take ((Int.ofNat (Array.mk rs).size).toNat - (s : Int).toNat) (List.drop (s : Int).toNat (Array.mk rs).toList) = rs.drop s := by
    rw [Int.toNat_natCast]
    apply List.take_of_length_le
    show (rs.drop s).length ≤ rs.length - s
    simp
  rw [e1, e2, h.eq]
  exact eqS_self _
theorem RF.l : (Int.ofNat (Array.mk rs).size != 2 * (s : Int)) = false := by
  have : Int.ofNat (Array.mk rs).size = 2 * (s : Int) := by show ((rs.length : Nat) : Int) = _; rw [h.len]; omega
  rw [this]; simp
end

theorem map_str_all (l : List ByteArray) : (l.map Value.string).all isStr = true := by
  rw [List.all_eq_true]
  intro x hx
  obtain ⟨y, _, rfl⟩ := List.mem_map.1 hx
  rfl

/-- What is so of the turns is so of the keys. -/
theorem rf_of {ks : List ByteArray} {ws : List Int} {s : Nat} (hs : sumW ws = (s : Int)) (h1 : 1 ≤ s) (h2 : s ≤ 100) (ho : okWs ws = true) :
    RF ((roundK ks ws (2 * (s : Int)).toNat).map Value.string) s := by
  unfold okWs okTs at ho
  rw [hs, Int.toNat_natCast] at ho
  simp only [Bool.and_eq_true] at ho
  obtain ⟨⟨o1, o2⟩, o3⟩ := ho
  have e : (2 * (s : Int)).toNat = 2 * s := by omega
  refine ⟨map_str_all _, by rw [List.length_map, roundK_len, e], h1, h2, ?_⟩
  have o1 := beqN_eq o1
  rw [e]
  unfold roundK
  rw [hs, ← List.map_take, ← List.map_take, ← List.map_drop, ← List.map_drop, o1]

theorem beqW_get : ∀ (ws : List Int) (ts : List Nat) (i j : Nat), beqW ws ts i = true → ∀ w, ws[j]? = some w → cntN (i + j) ts = w.toNat
  | [], ts, i, j, _, w, hw => by simp at hw
  | v :: ws, ts, i, 0, h, w, hw => by
    simp only [beqW, Bool.and_eq_true] at h
    simp at hw
    subst hw
    exact Nat.eq_of_beq_eq_true h.1
  | v :: ws, ts, i, j + 1, h, w, hw => by
    simp only [beqW, Bool.and_eq_true] at h
    have := beqW_get ws ts (i + 1) j h.2 w (by simpa using hw)
    rw [← this]
    congr 1
    omega

theorem cnt_of {ks : List ByteArray} {ws : List Int} {s : Nat} (hs : sumW ws = (s : Int)) (ho : okWs ws = true) (k : ByteArray) (i : Nat)
    (hd : ∀ j, j < ws.length → ((ks.getD j ⟨#[]⟩).toList == k.toList) = Nat.beq j i) (w : Int) (hw : ws[i]? = some w) (h0 : 0 ≤ w) :
    (cntS k (List.take ((s : Int).toNat - 0) (List.drop 0 (Array.mk ((roundK ks ws (2 * (s : Int)).toNat).map Value.string)).toList)) != w) = false := by
  unfold okWs okTs at ho
  rw [hs, Int.toNat_natCast] at ho
  simp only [Bool.and_eq_true] at ho
  obtain ⟨⟨o1, o2⟩, o3⟩ := ho
  have e : (2 * (s : Int)).toNat = 2 * s := by omega
  rw [e, Int.toNat_natCast, Nat.sub_zero, List.drop_zero]
  have e2 : (Array.mk ((roundK ks ws (2 * s)).map Value.string)).toList.take s = (((turns ws (sumW ws) (2 * s) (List.replicate ws.length 0)).take s).map fun b => ks.getD b ⟨#[]⟩).map Value.string := by
    show ((roundK ks ws (2 * s)).map Value.string).take s = _
    unfold roundK
    rw [← List.map_take, ← List.map_take]
  rw [e2, hs, cnt_map ks k i ws.length hd _ (by
    rw [List.all_eq_true] at o3 ⊢
    exact fun x hx => o3 x (List.mem_of_mem_take hx))]
  have := beqW_get ws _ 0 i o2 w hw
  rw [Nat.zero_add] at this
  rw [this]
  have : ((w.toNat : Nat) : Int) = w := by omega
  rw [this]
  simp
end Go.Proofs.YtddhljigbchemaaGreatDoor
