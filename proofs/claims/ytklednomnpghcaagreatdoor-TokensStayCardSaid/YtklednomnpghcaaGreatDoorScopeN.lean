/-
  'RightScopes' as a specification.
-/
import Derived.Test.YtklednomnpghcaaGreatDoorScopeM
import Derived.Test.YtklednomnpghcaaGreatDoorScopes
namespace Go.Proofs.YtklednomnpghcaaGreatDoor
open Go.Ev Go.RowKit ScopeLaw

noncomputable def scL (xs : Array Value) (d : Int) : List Value := (drawnS xs (d + 1) (nextR xs d 5).toNat).map Value.string
noncomputable def scE (xs : Array Value) (d : Int) : Int := d + 1 + nextR xs d 5
theorem scopes_any (zs : List Int) (d : Int) (h0 : 0 ≤ d) (h1 : d ≤ 100000) : FnOK 1 Tryz.prog 5 ⟨[.pointer (some ⟨0, 0, none⟩)]⟩ (Ev.h1 (strm (intsV zs) d)) (fun u g => u = fz ⟨scL (intsV zs) d⟩ ∧ g.get 0 = some (strm (intsV zs) (scE (intsV zs) d))) := by
  have hb := (nextR_spec zs 5 d h0 (by omega) (by omega) (by omega)).1
  have hc : nextR (intsV zs) d 5 = 0 ∨ nextR (intsV zs) d 5 = 1 ∨ nextR (intsV zs) d 5 = 2 ∨ nextR (intsV zs) d 5 = 3 ∨ nextR (intsV zs) d 5 = 4 := by omega
  rcases hc with h | h | h | h | h
  · refine FnOK.weak1 ((scopes0 zs d h0 h1 h).mono ?_)
    rintro v g ⟨rfl, q⟩
    refine ⟨_, _, nil1, ?_, ?_⟩
    · simp [scL, h, drawnS]
    · rw [q, scE, h]; simp
  · refine (scopes1 zs d h0 h1 h).mono ?_
    rintro v g ⟨rfl, q⟩
    exact ⟨by simp [scL, h], by rw [q, scE, h]⟩
  · refine (scopes2 zs d h0 h1 h).mono ?_
    rintro v g ⟨rfl, q⟩
    exact ⟨by simp [scL, h], by rw [q, scE, h]; congr 2; omega⟩
  · refine (scopes3 zs d h0 h1 h).mono ?_
    rintro v g ⟨rfl, q⟩
    exact ⟨by simp [scL, h], by rw [q, scE, h]; congr 2; omega⟩
  · refine (scopes4 zs d h0 h1 h).mono ?_
    rintro v g ⟨rfl, q⟩
    exact ⟨by simp [scL, h], by rw [q, scE, h]; congr 2; omega⟩
theorem scV_nine (r : Int) (h0 : 0 ≤ r) (h1 : r < 9) : isNine (.string (scV r)) = true := by
  have : r = 0 ∨ r = 1 ∨ r = 2 ∨ r = 3 ∨ r = 4 ∨ r = 5 ∨ r = 6 ∨ r = 7 ∨ r = 8 := by omega
  rcases this with rfl | rfl | rfl | rfl | rfl | rfl | rfl | rfl | rfl <;> decide
theorem drawn_nine (zs : List Int) : ∀ (n : Nat) (e : Int), 0 ≤ e → e + n ≤ 1000000 → ((drawnS (intsV zs) e n).map Value.string).all isNine = true
  | 0, _, _, _ => rfl
  | n + 1, e, h0, h1 => by
    have hb := (nextR_spec zs 9 e h0 (by omega) (by omega) (by omega)).1
    simp only [drawnS, List.map_cons, List.all_cons, Bool.and_eq_true]
    exact ⟨scV_nine _ hb.1 hb.2, drawn_nine zs n (e + 1) (by omega) (by omega)⟩
theorem drawn_four (zs : List Int) {n : Nat} (hn : n ≤ 4) {e : Int} (h0 : 0 ≤ e) (h1 : e ≤ 100001) : fourR ((drawnS (intsV zs) e n).map Value.string) = true := by
  simp only [fourR, Bool.and_eq_true, Nat.ble_eq, List.length_map, drawnS_len]
  exact ⟨drawn_nine zs n e h0 (by omega), hn⟩
theorem scL_four (zs : List Int) {d : Int} (h0 : 0 ≤ d) (h1 : d ≤ 100000) : fourR (scL (intsV zs) d) = true := by
  have hb := (nextR_spec zs 5 d h0 (by omega) (by omega) (by omega)).1
  exact drawn_four zs (by omega) (by omega) (by omega)
/-- A list as it is drawn: nil where it is empty. -/
def nilOr : Nat → List Value → Value
  | 0, _ => .slice none 0 0
  | _ + 1, l => fz ⟨l⟩
/-- The first list told by its length, all others as they are. -/
noncomputable def spRS (n : Nat) (f : FuncId) (args : Array Value) (h : AH) : Option (Bool × Value × AH) :=
  cond (Nat.beq f 5) (match args with
    | ⟨[.pointer (some ⟨b, 0, none⟩)]⟩ => match h.get b with
      | some (.cells ⟨[.func (.yield 0) xs ⟨[]⟩, .int .i64 at_]⟩ t (0, 0)) => cond (decide (at_ = 0))
        (some (Nat.beq t 25 && decide (nextR xs 0 5 = (n : Int)) && allInts xs && Nat.ble n 4, nilOr n ((drawnS xs 1 n).map Value.string), h.set b (.cells ⟨[fz xs, .int .i64 (1 + (n : Int))]⟩ 25 (0, 0))))
        (some (Nat.beq t 25 && decide (0 ≤ at_) && decide (at_ ≤ 100000) && allInts xs, fz ⟨scL xs at_⟩, h.set b (.cells ⟨[fz xs, .int .i64 (scE xs at_)]⟩ 25 (0, 0))))
      | _ => none
    | _ => none) none
theorem scopes_told (zs : List Int) {n : Nat} (hn : n ≤ 4) (h : nextR (intsV zs) 0 5 = (n : Int)) : FnOK 1 Tryz.prog 5 ⟨[.pointer (some ⟨0, 0, none⟩)]⟩ (Ev.h1 (strm (intsV zs) 0)) (fun u g => u = nilOr n ((drawnS (intsV zs) 1 n).map Value.string) ∧ g.get 0 = some (strm (intsV zs) (1 + (n : Int)))) := by
  match n with
  | 0 => exact (scopes0 zs 0 (by omega) (by omega) h).mono fun v g ⟨q1, q2⟩ => ⟨q1, q2⟩
  | 1 => exact (scopes1 zs 0 (by omega) (by omega) h).mono fun v g ⟨q1, q2⟩ => ⟨q1, q2⟩
  | 2 => exact (scopes2 zs 0 (by omega) (by omega) h).mono fun v g ⟨q1, q2⟩ => ⟨q1, q2⟩
  | 3 => exact (scopes3 zs 0 (by omega) (by omega) h).mono fun v g ⟨q1, q2⟩ => ⟨q1, q2⟩
  | 4 => exact (scopes4 zs 0 (by omega) (by omega) h).mono fun v g ⟨q1, q2⟩ => ⟨q1, q2⟩
  | n + 5 => omega
theorem spRS_ok (n : Nat) : SpOK (spRS n) := by
  intro f args h v h' hs
  unfold spRS at hs
  obtain ⟨hf, hs2⟩ := cond_some hs
  clear hs
  have := Nat.eq_of_beq_eq_true hf
  subst this
  split at hs2
  · split at hs2
    · rename_i xs at_ t hg
      rcases cond_cases hs2 with ⟨h0, hs⟩ | ⟨_, hs⟩
      · have h0 := of_decide_eq_true h0
        subst h0
        injection hs with hs
        injection hs with hb hs
        injection hs with hv hh
        subst hv hh
        simp only [Bool.and_eq_true, decide_eq_true_eq, Nat.ble_eq] at hb
        obtain ⟨⟨⟨b0, b1⟩, b2⟩, b3⟩ := hb
        have b0 := Nat.eq_of_beq_eq_true b0
        subst b0
        obtain ⟨zs, rfl⟩ := intsV_of_all b2
        refine ⟨?_, Nat.le_refl _⟩
        refine FnOK.ref (cs := ⟨[fz (intsV zs), .int .i64 0]⟩) (cs' := ⟨[fz (intsV zs), .int .i64 (1 + (n : Int))]⟩) (args := []) (scopes_told zs b3 b1) rfl (by simp [p1, fz]) (by simp [p1, fz]) ?_ hg
        cases n <;> rfl
      · injection hs with hs
        injection hs with hb hs
        injection hs with hv hh
        subst hv hh
        simp only [Bool.and_eq_true, decide_eq_true_eq] at hb
        obtain ⟨⟨⟨b0, b1⟩, b2⟩, b3⟩ := hb
        have b0 := Nat.eq_of_beq_eq_true b0
        subst b0
        obtain ⟨zs, rfl⟩ := intsV_of_all b3
        refine ⟨?_, Nat.le_refl _⟩
        exact FnOK.ref (cs := ⟨[fz (intsV zs), .int .i64 at_]⟩) (cs' := ⟨[fz (intsV zs), .int .i64 (scE (intsV zs) at_)]⟩) (args := []) (scopes_any zs at_ b1 b2) rfl (by simp [p1, fz]) (by simp [p1, fz]) rfl hg
    · cases hs2
  · cases hs2
end Go.Proofs.YtklednomnpghcaaGreatDoor
