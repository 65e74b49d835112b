/-
  Paths: ranges of bytes; units in their normal form.
-/
import Derived.Test.YtklednomnpghcaaGreatDoorByT
namespace Go.Proofs.YtklednomnpghcaaGreatDoor
open Go.Ev Go.RowKit RecLaw PathLaw

/-! isRange -/
/-! PathFault -/
def bT (s : ByteArray) (i : Int) : Int := ((s.data.toList.getD i.toNat 0).toNat : Int)
def W (n : Int) : Int := IntKind.i64.wrap n
noncomputable def apT (cs : List Value) (k n : Nat) (vs : List Value) (K : List Value → Nat → Prop) : Prop :=
  bif (k + n).ble k then False else bif (k + n).ble 9223372036854775807 && ((k + n) * 1).ble 140737488355328 then bif (0 + k * 1).ble (Array.mk cs).size && true && true then K (List.take (k * 1) (List.drop 0 (Array.mk cs).toList) ++ vs) (k + n) else False else False
theorem nnU (D : List UInt8) (t : TypeId) (fr : Nat × Nat) : NoNames (.cells ⟨D.map u8V⟩ t fr) := by
  intro v hv
  obtain ⟨d, _, rfl⟩ := List.mem_map.1 (show v ∈ D.map u8V from hv)
  rfl
theorem ble_no {k n : Nat} (h : k < n) : n.ble k = false := by
  cases q : n.ble k with
  | false => rfl
  | true => exact absurd (Nat.le_of_ble_eq_true q) (by omega)
theorem apT_ok {D bs : List UInt8} {n : Nat} {vs : List Value} {K : List Value → Nat → Prop} (hv : vs = bs.map u8V) (hn : n = bs.length) (hb : bs ≠ []) (hl : D.length ≤ 100000) (hl2 : bs.length ≤ 100000) (hK : K ((D ++ bs).map u8V) (D ++ bs).length) : apT (D.map u8V) D.length n vs K := by
  subst hv hn
  have hp := List.length_pos_iff.2 hb
  refine pick_f (ble_no (by omega)) (need_mk ?_ (need_mk ?_ ?_))
  · rw [Bool.and_eq_true, Nat.ble_eq, Nat.ble_eq]; omega
  · have : (0 + D.length * 1).ble (Array.mk (D.map u8V)).size = true := by
      rw [Nat.ble_eq]
      show 0 + D.length * 1 ≤ (D.map u8V).length
      rw [List.length_map]; omega
    rw [this]; rfl
  · have e : List.take (D.length * 1) (List.drop 0 (Array.mk (D.map u8V)).toList) ++ bs.map u8V = (D ++ bs).map u8V := by
      rw [List.drop_zero, Nat.mul_one, List.map_append]
      show List.take D.length (D.map u8V) ++ _ = _
      rw [List.take_of_length_le (by rw [List.length_map]; exact Nat.le_refl _)]
    rw [e]
    rw [List.length_append] at hK
    exact hK
theorem w_nat {i : Nat} (k : Nat) (h : i ≤ 1000000) (hk : k ≤ 10) : W ((i : Int) + (k : Int)) = ((i + k : Nat) : Int) := by unfold W; rw [wrap_id _ (by omega) (by omega)]; rfl
theorem bT_at {pre l : List UInt8} {c : UInt8} (k : Nat) (h : l[k]? = some c) : bT (bl (pre ++ l)) ((pre.length + k : Nat) : Int) = (c.toNat : Int) := by
  unfold bT
  rw [bl_list]
  show (((pre ++ l).getD (pre.length + k) 0).toNat : Int) = _
  rw [List.getD, List.getElem?_append_right (by omega), Nat.add_sub_cancel_left, h]
  rfl
theorem u8_byte : ∀ r : List UInt8, (r.map u8V).all isByte = true
  | [] => rfl
  | b :: l => by
    have ih := u8_byte l
    rw [List.map_cons, List.all_cons, ih, Bool.and_true]
    show (decide (0 ≤ (b.toNat : Int)) && decide ((b.toNat : Int) < 256)) = true
    have := b.toNat_lt
    simp; omega
theorem u8_back (r : List UInt8) : (r.map u8V).map toByte = r := by
  rw [List.map_map]
  have : toByte ∘ u8V = id := by
    funext b
    show UInt8.ofNat ((b.toNat : Int)).toNat = b
    rw [Int.toNat_natCast, UInt8.ofNat_toNat]
  rw [this, List.map_id]
theorem bl_beq (w : List UInt8) (x : ByteArray) : ((bl w).toList == x.toList) = (w == x.data.toList) := by
  rw [Lib.toList_data, Lib.toList_data, bl_list]
end Go.Proofs.YtklednomnpghcaaGreatDoor
