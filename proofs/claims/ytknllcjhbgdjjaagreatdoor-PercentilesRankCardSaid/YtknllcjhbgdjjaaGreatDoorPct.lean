import Derived.Test.YtknllcjhbgdjjaaGreatDoorBase
import Derived.Test.YtknllcjhbgdjjaaGreatDoorShelf
import Derived.Sort.OwnSortedInts
import Derived.RowKitTokens
import Derived.Lib.OwnBridge
import Derived.Sort.Grow
namespace Go.Proofs.YtknllcjhbgdjjaaGreatDoor
open Go.RowKit Go.Shelf Go.Sort

theorem cell_of_holds {w : World} {g : Nat} {S : List Int} (h : Holds (Value.int .i64) w g 0 S.toArray) (j : Nat) (hj : j < S.length) : w.cell? ⟨g, j, none⟩ = some (.int .i64 (S.getD j 0)) := by
  have h1 := (h j (by simpa using hj)).1
  rw [Nat.zero_add] at h1
  rw [h1, getElem!_pos _ j (by simpa using hj)]
  simp [List.getD, List.getElem?_eq_getElem hj]

set_option maxHeartbeats 400000 in
theorem outside_in (x lo hi : Int) (w : World) (h1 : lo ≤ x) (h2 : x ≤ hi) :
    Calls Tryz.prog 44 #[.int .i64 x, .int .i64 lo, .int .i64 hi] w fun e w' => e = .returned (.bool false) ∧ w = w' := by
  go_enter Tryz.func44, Tryz.ntmps44
  go_wp2
  go_ret
  have k1 : decide (x < lo) = false := decide_eq_false (by omega)
  have k2 : decide (hi < x) = false := decide_eq_false (by omega)
  exact ⟨by show Ending.returned (.bool (decide (x < lo) || decide (hi < x))) = _; rw [k1, k2]; rfl, rfl⟩

def pctOf (xs : List Int) (part : Int) : Int := (xs.mergeSort fun x y => decide (x ≤ y)).getD (((part * xs.length + 1000 - 1) / 1000).toNat - 1) 0

set_option maxRecDepth 100000 in
set_option maxHeartbeats 400000 in
theorem percentile_ok (b off c : Nat) (xs : List Int) (part : Int) (w : World) (h0 : 0 < xs.length) (hbig : xs.length ≤ 2000) (hp1 : 1 ≤ part) (hp2 : part ≤ 1000) (hc : ∀ j, j < xs.length → w.cell? ⟨b, off + j, none⟩ = some (.int .i64 (xs.getD j 0))) :
    Calls Tryz.prog 14 #[.slice (some ⟨b, off, none⟩) xs.length c, .int .i64 part] w fun e w' => e = .returned (.tuple #[.int .i64 (pctOf xs part), .int .i64 0]) ∧ Below w.heap.size w w' := by
  have hclone := Tryz.slices_Clone_int b off xs.length c xs w (by omega) (by omega) hc
  have hz0 : ((xs.length : Int) == 0) = false := beq_eq_false_iff_ne.2 (by omega)
  have hm1 : part ≤ part * xs.length := by
    have h : part * 1 ≤ part * xs.length := Int.mul_le_mul_of_nonneg_left (show (1 : Int) ≤ xs.length by omega) (show (0 : Int) ≤ part by omega)
    rwa [Int.mul_one] at h
  have hm2 : part * xs.length ≤ 1000 * xs.length := Int.mul_le_mul_of_nonneg_right hp2 (by omega)
  clear hc
  go_enter Tryz.func14, Tryz.ntmps14
  go_wp2_with (first
    | (go_at_call 44; refine (outside_in part 1 1000 _ hp1 hp2).mono ?_; rintro e w' ⟨rfl, rfl⟩)
    | (go_at_call 51; refine hclone.mono ?_; rintro e w1 ⟨v1, rfl, hown, hnn, hbel⟩
       obtain ⟨g, cap, rfl, hbg, hgl, hncap, hcm, hlen, hH⟩ := Lib.holds_of_ownsRow hown hnn
       have hsort := Tryz.slices_Sort_int g 0 cap (xs.take xs.length) w1 hH hgl (by omega)
       rw [hlen] at hsort
       have X : Aside (Below w.heap.size w w1 ∧ w.heap.size ≤ g ∧ g < w1.heap.size ∧ (xs.take xs.length).length = xs.length ∧ Holds (Value.int .i64) w1 g 0 (xs.take xs.length).toArray) := ⟨hbel, hbg, hgl, hlen, hH⟩
       clear hown hbel hH hnn hlen hclone)
    | (go_at_call 52; refine hsort.mono ?_; rintro e w2 ⟨rfl, nn, os, hw2⟩
       have hH2 : Holds (Value.int .i64) w2 g 0 ((xs.take xs.length).mergeSort fun x y => decide (x ≤ y)).toArray := by
         subst hw2
         exact holds_grow _ _ os g 0 _ (by simpa [putRow, mapBlock, Sort.ahead] using X.out.2.2.1) (holds_putRow _ _ g 0 _ _ (holds_ahead _ w1 nn g 0 _ X.out.2.2.2.2) (by simp))
       have hB2 : Below w.heap.size w w2 := by
         subst hw2
         exact X.out.1.grown (grownBy_sortedI _) X.out.1.size (fun j hj => by cases hj; exact X.out.2.1)
       obtain ⟨S, hS⟩ : ∃ S : List Int, S = (xs.take xs.length).mergeSort fun x y => decide (x ≤ y) := ⟨_, rfl⟩
       rw [← hS] at hH2
       have hSl : S.length = xs.length := by rw [hS, List.length_mergeSort]; exact X.out.2.2.2.1
       have chi : w2.cell? ⟨g, (((part * xs.length + 1000 - 1) / 1000).toNat - 1), none⟩ = some (.int .i64 (S.getD (((part * xs.length + 1000 - 1) / 1000).toNat - 1) 0)) := cell_of_holds hH2 _ (by omega)
       have Y : Aside (S = ((xs.take xs.length).mergeSort fun x y => decide (x ≤ y)) ∧ Below w.heap.size w w2) := ⟨hS, hB2⟩
       clear hw2 hsort hH2 hS hB2 X hSl))
  go_ret2
  refine ⟨?_, Y.out.2⟩
  have hm : pctOf xs part = S.getD (((part * xs.length + 1000 - 1) / 1000).toNat - 1) 0 := by
    unfold pctOf
    rw [Y.out.1, List.take_length]
  rw [hm]
  rfl
end Go.Proofs.YtknllcjhbgdjjaaGreatDoor
