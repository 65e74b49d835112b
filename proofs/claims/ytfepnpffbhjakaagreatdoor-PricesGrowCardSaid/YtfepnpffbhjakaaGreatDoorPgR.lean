/-
  Scopes as they are drawn.
-/
import Derived.Test.YtfepnpffbhjakaaGreatDoorPgD
namespace Go.Proofs.YtfepnpffbhjakaaGreatDoor
open Go.Ev Go.RowKit PriceLaw

noncomputable def scL (xs : Array Value) (d : Int) : List Value := (drawnS xs (d + 1) (nextR xs d 5).toNat).map Value.string
noncomputable def scE (xs : Array Value) (d : Int) : Int := d + 1 + nextR xs d 5
/-- Scopes as they are drawn. -/
noncomputable def rsW (xs : Array Value) (d : Int) : Value := if nextR xs d 5 = 0 then .slice none 0 0 else fz ⟨scL xs d⟩
theorem scV_sc (r : Int) (h0 : 0 ≤ r) (h1 : r < 9) : isSc (.string (scV r)) = true := by
  have : r = 0 ∨ r = 1 ∨ r = 2 ∨ r = 3 ∨ r = 4 ∨ r = 5 ∨ r = 6 ∨ r = 7 ∨ r = 8 := by omega
  rcases this with rfl | rfl | rfl | rfl | rfl | rfl | rfl | rfl | rfl <;> decide
theorem drawn_sc (zs : List Int) : ∀ (n : Nat) (e : Int), 0 ≤ e → e + n ≤ 1000000 → ((drawnS (intsV zs) e n).map Value.string).all isSc = true
  | 0, _, _, _ => rfl
  | n + 1, e, h0, h1 => by
    have hb := (nextR_spec zs 9 e h0 (by omega) (by omega) (by omega)).1
    simp only [drawnS, List.map_cons, List.all_cons, Bool.and_eq_true]
    exact ⟨scV_sc _ hb.1 hb.2, drawn_sc zs n (e + 1) (by omega) (by omega)⟩
theorem rsW_ok (zs : List Int) {d : Int} (h0 : 0 ≤ d) (h1 : d ≤ 100000) : okScs (rsW (intsV zs) d) = true := by
  have hb := (nextR_spec zs 5 d h0 (by omega) (by omega) (by omega)).1
  unfold rsW
  by_cases h : nextR (intsV zs) d 5 = 0
  · rw [if_pos h]; rfl
  · rw [if_neg h]
    show ((scL (intsV zs) d).all isSc && Nat.ble (scL (intsV zs) d).length 4) = true
    have hl : (scL (intsV zs) d).length = (nextR (intsV zs) d 5).toNat := by unfold scL; rw [List.length_map, drawnS_len]
    rw [hl, Nat.ble_eq_true_of_le (by omega)]
    unfold scL
    rw [drawn_sc zs _ _ (by omega) (by omega)]
    rfl
theorem scopes_w (zs : List Int) (d : Int) (h0 : 0 ≤ d) (h1 : d ≤ 100000) : FnOK 1 Tryz.prog 9 ⟨[.pointer (some ⟨0, 0, none⟩)]⟩ (Ev.h1 (strm (intsV zs) d)) (fun u g => u = rsW (intsV zs) d ∧ g.get 0 = some (strm (intsV zs) (scE (intsV zs) d))) := by
  by_cases h : nextR (intsV zs) d 5 = 0
  · refine (scopes0 zs d h0 h1 h).mono ?_
    rintro v g ⟨rfl, q⟩
    exact ⟨by rw [rsW, if_pos h], by rw [q, scE, h]; simp⟩
  · have hb := (nextR_spec zs 5 d h0 (by omega) (by omega) (by omega)).1
    have hc : nextR (intsV zs) d 5 = 1 ∨ nextR (intsV zs) d 5 = 2 ∨ nextR (intsV zs) d 5 = 3 ∨ nextR (intsV zs) d 5 = 4 := by omega
    have e : rsW (intsV zs) d = fz ⟨scL (intsV zs) d⟩ := by rw [rsW, if_neg h]
    rw [e]
    rcases hc with h | h | h | h
    · refine (scopes1 zs d h0 h1 h).mono ?_
      rintro v g ⟨rfl, q⟩
      exact ⟨by simp [scL, h], by rw [q, scE, h]⟩
    · refine (scopes2 zs d h0 h1 h).mono ?_
      rintro v g ⟨rfl, q⟩
      exact ⟨by simp [scL, h], by rw [q, scE, h]; congr 2; omega⟩
    · refine (scopes3 zs d h0 h1 h).mono ?_
      rintro v g ⟨rfl, q⟩
      exact ⟨by simp [scL, h], by rw [q, scE, h]; congr 2; omega⟩
    · refine (scopes4 zs d h0 h1 h).mono ?_
      rintro v g ⟨rfl, q⟩
      exact ⟨by simp [scL, h], by rw [q, scE, h]; congr 2; omega⟩
/-- Scopes as they are drawn, told whether there are any. -/
noncomputable def scD (e : Bool) (l : List Value) : Value := match e with
  | true => .slice none 0 0
  | false => fz ⟨l⟩
noncomputable def spRT (e : Bool) (f : FuncId) (args : Array Value) (h : AH) : Option (Bool × Value × AH) :=
  cond (Nat.beq f 9) (match args with
    | ⟨[.pointer (some ⟨b, 0, none⟩)]⟩ => match h.get b with
      | some (.cells ⟨[.func (.yield 0) xs ⟨[]⟩, .int .i64 at_]⟩ t (0, 0)) =>
        some (Nat.beq t 25 && decide (0 ≤ at_) && decide (at_ ≤ 100000) && (decide (nextR xs at_ 5 = 0) == e) && allInts xs, scD e (scL xs at_), h.set b (.cells ⟨[fz xs, .int .i64 (scE xs at_)]⟩ 25 (0, 0)))
      | _ => none
    | _ => none) none
theorem rsW_told {zs : List Int} {d : Int} {e : Bool} (be : decide (nextR (intsV zs) d 5 = 0) = e) : rsW (intsV zs) d = scD e (scL (intsV zs) d) := by
  unfold rsW
  subst be
  by_cases h : nextR (intsV zs) d 5 = 0
  · rw [if_pos h, decide_eq_true h]; rfl
  · rw [if_neg h, decide_eq_false h]; rfl
theorem spRT_ok (e : Bool) : SpOK (spRT e) := by
  intro f args h v h' hs
  unfold spRT at hs
  obtain ⟨hf, hs2⟩ := cond_some hs
  clear hs
  have := Nat.eq_of_beq_eq_true hf
  subst this
  split at hs2
  · split at hs2
    · rename_i xs at_ t hg
      injection hs2 with hs
      injection hs with hb hs
      injection hs with hv hh
      subst hv hh
      simp only [Bool.and_eq_true, decide_eq_true_eq] at hb
      obtain ⟨⟨⟨⟨b0, b1⟩, b2⟩, be⟩, b3⟩ := hb
      have b0 := Nat.eq_of_beq_eq_true b0
      subst b0
      obtain ⟨zs, rfl⟩ := intsV_of_all b3
      refine ⟨?_, Nat.le_refl _⟩
      have this := scopes_w zs at_ b1 b2
      rw [rsW_told (eq_of_beq be)] at this
      exact FnOK.ref (cs := ⟨[fz (intsV zs), .int .i64 at_]⟩) (cs' := ⟨[fz (intsV zs), .int .i64 (scE (intsV zs) at_)]⟩) (args := []) this rfl (by simp [p1, fz]) (by simp [p1, fz]) (by cases e <;> rfl) hg
    · cases hs2
  · cases hs2
end Go.Proofs.YtfepnpffbhjakaaGreatDoor
