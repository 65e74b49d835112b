/-
  Headers: a right request, by existence.
-/
import Derived.Test.YtfjfdemnnhfmoaaGreatDoorHoQ
namespace Go.Proofs.YtfjfdemnnhfmoaaGreatDoor
open Go.Ev Go.RowKit RecLaw PathLaw HopLaw

/-- A sender: none, or a word without commas that is not told. -/
def okFrom (f : ByteArray) : Bool := f.data.toList.isEmpty || (!(f.data.toList.contains 44) && !toldS f)
def okReq (a : Int) (m ho p q f bd : ByteArray) : Bool :=
  decide (0 ≤ a) && decide (a < 345686400000) && inU namesU m && inU hostsU ho && inU pathsU p && inU qrsU q && okVal f && Nat.ble bd.size 20000 && okVal ho && Nat.ble ho.size 100 && Nat.ble f.size 100 && okFrom f
theorem at_all : ([0, 1, 2, 3] : List Int).all (fun r => (decide (0 ≤ gI atL r) && decide (gI atL r < 345686400000))) = true := by kernel_rfl
theorem at_in {r : Int} (h0 : 0 ≤ r) (h1 : r < 4) : (decide (0 ≤ gI atL r) && decide (gI atL r < 345686400000)) = true :=
  List.all_eq_true.1 at_all r (by have h : r = 0 ∨ r = 1 ∨ r = 2 ∨ r = 3 := (by omega); simpa using h)
theorem me_all : ([0, 1, 2, 3, 4, 5] : List Int).all (fun r => inU namesU (gS meL r)) = true := by kernel_rfl
theorem me_in {r : Int} (h0 : 0 ≤ r) (h1 : r < 6) : inU namesU (gS meL r) = true :=
  List.all_eq_true.1 me_all r (by have h : r = 0 ∨ r = 1 ∨ r = 2 ∨ r = 3 ∨ r = 4 ∨ r = 5 := (by omega); simpa using h)
theorem hoo_all : ([0, 1, 2, 3, 4] : List Int).all (fun r => (inU hostsU (gS hoL r) && okVal (gS hoL r) && Nat.ble (gS hoL r).size 100)) = true := by kernel_rfl
theorem hoo_in {r : Int} (h0 : 0 ≤ r) (h1 : r < 5) : (inU hostsU (gS hoL r) && okVal (gS hoL r) && Nat.ble (gS hoL r).size 100) = true :=
  List.all_eq_true.1 hoo_all r (by have h : r = 0 ∨ r = 1 ∨ r = 2 ∨ r = 3 ∨ r = 4 := (by omega); simpa using h)
theorem pa_all : ([0, 1, 2, 3, 4, 5] : List Int).all (fun r => inU pathsU (gS paL r)) = true := by kernel_rfl
theorem pa_in {r : Int} (h0 : 0 ≤ r) (h1 : r < 6) : inU pathsU (gS paL r) = true :=
  List.all_eq_true.1 pa_all r (by have h : r = 0 ∨ r = 1 ∨ r = 2 ∨ r = 3 ∨ r = 4 ∨ r = 5 := (by omega); simpa using h)
theorem qu_all : ([0, 1, 2, 3] : List Int).all (fun r => inU qrsU (gS quL r)) = true := by kernel_rfl
theorem qu_in {r : Int} (h0 : 0 ≤ r) (h1 : r < 4) : inU qrsU (gS quL r) = true :=
  List.all_eq_true.1 qu_all r (by have h : r = 0 ∨ r = 1 ∨ r = 2 ∨ r = 3 := (by omega); simpa using h)
theorem fr_all : ([0, 1, 2, 3] : List Int).all (fun r => (okVal (gS frL r) && Nat.ble (gS frL r).size 100 && okFrom (gS frL r))) = true := by kernel_rfl
theorem fr_in {r : Int} (h0 : 0 ≤ r) (h1 : r < 4) : (okVal (gS frL r) && Nat.ble (gS frL r).size 100 && okFrom (gS frL r)) = true :=
  List.all_eq_true.1 fr_all r (by have h : r = 0 ∨ r = 1 ∨ r = 2 ∨ r = 3 := (by omega); simpa using h)
theorem bo_all : ([0, 1, 2] : List Int).all (fun r => Nat.ble (gS boL r).size 20000) = true := by kernel_rfl
theorem bo_in {r : Int} (h0 : 0 ≤ r) (h1 : r < 3) : Nat.ble (gS boL r).size 20000 = true :=
  List.all_eq_true.1 bo_all r (by have h : r = 0 ∨ r = 1 ∨ r = 2 := (by omega); simpa using h)

/-- What a drawn request is. -/
def RqD (v : Value) : Prop := ∃ a m ho p q f bd l, v = rqV a m ho p q f l bd ∧ okReq a m ho p q f bd = true ∧ DrH l
theorem rqD_mk (zs : List Int) {bd : ByteArray} (hbd : Nat.ble bd.size 20000 = true) : RqD (rqD (intsV zs) 0 bd) := by
  have n (m d : Int) (h : 0 ≤ d) (h1 : d ≤ 1000) (hm : 1 ≤ m) (hm2 : m ≤ 100) := (nextR_spec zs m d h (by omega) (by omega) (by omega)).1
  have b0 := n 4 0 (by omega) (by omega) (by omega) (by omega)
  have b1 := n 6 (0 + 1) (by omega) (by omega) (by omega) (by omega)
  have b2 := n 5 (0 + 1 + 1) (by omega) (by omega) (by omega) (by omega)
  have b3 := n 6 (0 + 1 + 1 + 1) (by omega) (by omega) (by omega) (by omega)
  have b4 := n 4 (0 + 1 + 1 + 1 + 1) (by omega) (by omega) (by omega) (by omega)
  have b5 := n 4 (0 + 1 + 1 + 1 + 1 + 1) (by omega) (by omega) (by omega) (by omega)
  have c0 := at_in b0.1 b0.2
  have c1 := me_in b1.1 b1.2
  have c2 := hoo_in b2.1 b2.2
  have c3 := pa_in b3.1 b3.2
  have c4 := qu_in b4.1 b4.2
  have c5 := fr_in b5.1 b5.2
  simp only [Bool.and_eq_true] at c0 c2 c5
  refine ⟨_, _, _, _, _, _, _, _, rfl, ?_, rhL_dr zs (by omega) (by omega)⟩
  unfold okReq
  simp only [Bool.and_eq_true]
  exact ⟨⟨⟨⟨⟨⟨⟨⟨⟨⟨⟨c0.1, c0.2⟩, c1⟩, c2.1.1⟩, c3⟩, c4⟩, c5.1.1⟩, hbd⟩, c2.1.2⟩, c2.2⟩, c5.1.2⟩, c5.2⟩
end Go.Proofs.YtfjfdemnnhfmoaaGreatDoor
