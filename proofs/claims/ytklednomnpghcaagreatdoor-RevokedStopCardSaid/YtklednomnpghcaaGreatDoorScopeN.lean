/-
  'RightScopes' as a specification.
-/
import Derived.Test.YtklednomnpghcaaGreatDoorScopeM
import Derived.Test.YtklednomnpghcaaGreatDoorScopes
namespace Go.Proofs.YtklednomnpghcaaGreatDoor
open Go.Ev Go.RowKit ScopeLaw

noncomputable def scL (xs : Array Value) (d : Int) : List Value := (drawnS xs (d + 1) (nextR xs d 5).toNat).map Value.string
noncomputable def scE (xs : Array Value) (d : Int) : Int := d + 1 + nextR xs d 5
theorem scV_nine (r : Int) (h0 : 0 ≤ r) (h1 : r < 9) : isNine (.string (scV r)) = true := by
  have : r = 0 ∨ r = 1 ∨ r = 2 ∨ r = 3 ∨ r = 4 ∨ r = 5 ∨ r = 6 ∨ r = 7 ∨ r = 8 := by omega
  rcases this with rfl | rfl | rfl | rfl | rfl | rfl | rfl | rfl | rfl <;> decide
theorem drawn_nine (zs : List Int) : ∀ (n : Nat) (e : Int), 0 ≤ e → e + n ≤ 1000000 → ((drawnS (intsV zs) e n).map Value.string).all isNine = true
  | 0, _, _, _ => rfl
  | n + 1, e, h0, h1 => by
    have hb := (nextR_spec zs 9 e h0 (by omega) (by omega) (by omega)).1
    simp only [drawnS, List.map_cons, List.all_cons, Bool.and_eq_true]
    exact ⟨scV_nine _ hb.1 hb.2, drawn_nine zs n (e + 1) (by omega) (by omega)⟩
theorem drawn_four (zs : List Int) {n : Nat} (hn : n ≤ 4) {e : Int} (h0 : 0 ≤ e) (h1 : e ≤ 100001) : fourR ((drawnS (intsV zs) e n).map Value.string) = true := by
  simp only [fourR, Bool.and_eq_true, Nat.ble_eq, List.length_map, drawnS_len]
  exact ⟨drawn_nine zs n e h0 (by omega), hn⟩
theorem scL_four (zs : List Int) {d : Int} (h0 : 0 ≤ d) (h1 : d ≤ 100000) : fourR (scL (intsV zs) d) = true := by
  have hb := (nextR_spec zs 5 d h0 (by omega) (by omega) (by omega)).1
  exact drawn_four zs (by omega) (by omega) (by omega)
end Go.Proofs.YtklednomnpghcaaGreatDoor
