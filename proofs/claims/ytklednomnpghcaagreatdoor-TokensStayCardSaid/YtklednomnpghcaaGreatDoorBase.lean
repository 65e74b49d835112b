/-
  Small facts that several texts of a seat use.
-/
import Derived.Test.YtklednomnpghcaaGreatDoorDraw
namespace Go.Proofs.YtklednomnpghcaaGreatDoor
open Go.Ev Go.RowKit

theorem pick_t {b : Bool} {X Y : Prop} (h : b = true) (x : X) : cond b X Y := by rw [h]; exact x
theorem pick_f {b : Bool} {X Y : Prop} (h : b = false) (y : Y) : cond b X Y := by rw [h]; exact y
theorem ble_ss (j : Nat) : (j + 1).ble j = false := by
  cases h : (j + 1).ble j with
  | false => rfl
  | true => rw [Nat.ble_eq] at h; omega
theorem ble_big (j : Nat) (h : j ≤ 4000) : ((j + 1).ble 9223372036854775807 && ((j + 1) * 16).ble 140737488355328) = true := by
  rw [Bool.and_eq_true, Nat.ble_eq, Nat.ble_eq]; omega
theorem ble_len {ss : List Value} {j : Nat} (h : ss.length = j) : ((0 + j * 1).ble (Array.mk ss).size && true && true) = true := by
  have : (0 + j * 1).ble (Array.mk ss).size = true := by rw [Nat.ble_eq]; show 0 + j * 1 ≤ ss.length; omega
  rw [this]; rfl
theorem take_ok {ss : List Value} {j : Nat} (h : ss.length = j) : List.take (j * 1) (List.drop 0 (Array.mk ss).toList) = ss := by
  rw [Nat.mul_one, List.drop_zero, ← h]; exact List.take_length
theorem p1_app {ss : List Value} (hp : ∀ v ∈ ss, p1 v = true) (k : ByteArray) : ∀ v ∈ ss ++ [.string k], p1 v = true := by
  intro v hv
  rcases List.mem_append.1 hv with q | q
  · exact hp v q
  · rw [List.mem_singleton.1 q]; rfl

def natsOf (s : ByteArray) : List Nat := s.data.toList.map UInt8.toNat
def beqN : List Nat → List Nat → Bool
  | [], [] => true
  | a :: l, b :: r => Nat.beq a b && beqN l r
  | _, _ => false
theorem beqN_eq : ∀ {a b : List Nat}, beqN a b = true → a = b
  | [], [], _ => rfl
  | a :: l, b :: r, h => by
    simp only [beqN, Bool.and_eq_true] at h
    rw [Nat.eq_of_beq_eq_true h.1, beqN_eq h.2]
theorem natsOf_inj {a b : ByteArray} (h : natsOf a = natsOf b) : a = b := by
  have h1 : a.data.toList = b.data.toList := List.map_inj_right (fun x y => UInt8.toNat_inj.1) |>.1 h
  obtain ⟨⟨x⟩⟩ := a
  obtain ⟨⟨y⟩⟩ := b
  simp only at h1
  rw [h1]
/-- Whether a string is one of some. -/
def inU (l : List ByteArray) (s : ByteArray) : Bool := l.any fun t => beqN (natsOf t) (natsOf s)
theorem inU_mem {l : List ByteArray} {s : ByteArray} (h : inU l s = true) : s ∈ l := by
  obtain ⟨t, h1, h2⟩ := List.any_eq_true.1 h
  rw [← natsOf_inj (beqN_eq h2)]
  exact h1
def isStr : Value → Bool
  | .string _ => true
  | _ => false
theorem str_get {l : List Value} (h : l.all isStr = true) {i : Nat} (hi : i < l.length) : l.getD i (Value.tuple { toList := [] }) = .string (toStr (l.getD i (Value.tuple { toList := [] }))) := by
  have : l.getD i (Value.tuple { toList := [] }) = l[i] := by simp [List.getD, hi]
  rw [this]
  have := List.all_eq_true.1 h l[i] (List.getElem_mem hi)
  cases hl : l[i] <;> rw [hl] at this <;> first | rfl | cases this
theorem drop_cons {l : List Value} {i : Nat} (hi : i < l.length) : l.drop i = l.getD i (Value.tuple { toList := [] }) :: l.drop (i + 1) := by
  rw [List.drop_eq_getElem_cons hi]
  simp [List.getD, hi]

theorem freeze1 {p : Nat} {P : Program} {h : AH} {b : Nat} {t : TypeId} {fr : Nat × Nat} (l : List ByteArray) {m : Nat} (hm : l.length = m) (hb : h.get b = some (.cells ⟨l.map Value.string⟩ t fr)) :
    Weak p P #[.slice (some ⟨b, 0, none⟩) m m] h #[fz ⟨l.map Value.string⟩] (h.del b) := by
  refine Weak.freeze (n := m) (cap := m) b 1 ⟨l.map Value.string⟩ hb ?_ (by simpa using hm) (Nat.le_refl _) (by simp; omega) ?_ ?_ rfl ?_
  · intro v hv
    obtain ⟨s, _, rfl⟩ := List.mem_map.1 (show v ∈ l.map Value.string by simpa using hv)
    rfl
  · intro i x hx
    have hx : (l.map Value.string)[i]? = some x := by simpa using hx
    rw [List.getElem?_map] at hx
    obtain ⟨q, _, rfl⟩ := Option.map_eq_some_iff.1 hx
    rfl
  · intro i j x v hx hv
    have hx : (l.map Value.string)[i]? = some x := by simpa using hx
    have hx0 := hx
    rw [List.getElem?_map] at hx
    obtain ⟨q, _, rfl⟩ := Option.map_eq_some_iff.1 hx
    match j, hv with
    | 0, hv =>
      have : Value.string q = v := by simpa [Value.cells] using hv
      rw [← this, Nat.mul_one, Nat.add_zero]
      simpa using hx0
    | j + 1, hv => simp [Value.cells] at hv
  · intro i
    match i with
    | 0 => exact .inr ⟨rfl, rfl⟩
    | i + 1 => exact .inl (by simp)
theorem nil1 {p : Nat} {P : Program} {h : AH} : Weak p P #[.slice none 0 0] h #[fz #[]] h :=
  Weak.nil rfl fun i => by
    match i with
    | 0 => exact .inr ⟨0, rfl, rfl⟩
    | i + 1 => exact .inl (by simp)

theorem del_ne {h : AH} {i b : Nat} (hb : i ≠ b) : (h.del b).get i = h.get i := look_delB_ne hb h.blocks
def blkOf : Value → Nat
  | .slice (some a) _ _ => a.block
  | _ => 0
noncomputable def SI : SC := ⟨idn, spNext [], true, false⟩
theorem SI_ok : SI.cfg.OK Tryz.prog := (spNext_ok []).cfg
end Go.Proofs.YtklednomnpghcaaGreatDoor
