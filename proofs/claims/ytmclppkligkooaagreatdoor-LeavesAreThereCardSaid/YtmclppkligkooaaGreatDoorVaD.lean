/-
  Values: what is wrong with one: the values in it.
-/
import Derived.Test.YtmclppkligkooaaGreatDoorVaC
namespace Go.Proofs.YtmclppkligkooaaGreatDoor
open Go.Ev Go.RowKit

noncomputable def spFv (x : Value) (ok : Bool) (f : FuncId) (args : Array Value) (h : AH) : Option (Bool × Value × AH) :=
  cond (Nat.beq f 30) (match args with
    | ⟨[y]⟩ => some (eqV y x && ok, .int .i64 0, h)
    | _ => none) none
noncomputable def SFv (x : Value) (ok : Bool) : SC := ⟨idn, spFv x ok, true, true⟩
def Fv (x : Value) : Prop := FnOK 0 Tryz.prog 30 ⟨[x]⟩ h0 (fun v _ => v = .int .i64 0) ∧ p2 x = true
theorem spFv_ok {x : Value} {ok : Bool} (hF : ok = true → Fv x) : SpOK (spFv x ok) := by
  intro f args h v h' hs
  unfold spFv at hs
  obtain ⟨hf, hs2⟩ := cond_some hs
  clear hs
  have := Nat.eq_of_beq_eq_true hf
  subst this
  split at hs2
  · rename_i y
    injection hs2 with hs
    injection hs with hb hs
    injection hs with hv hh
    subst hv hh
    rw [Bool.and_eq_true] at hb
    have hy := eqV_eq hb.1
    subst hy
    obtain ⟨q1, q2⟩ := hF hb.2
    exact ⟨FnOK.pure q1 (by show (p2 _ && true) = true; rw [q2]; rfl) rfl h, Nat.le_refl _⟩
  · cases hs2
theorem spFv_none : SpOK (spFv undef false) := spFv_ok fun h => Bool.noConfusion h
def fvH (bx : List Value) : AH := ⟨1, 1, [(0, bxO bx)]⟩
theorem fv1 (x : Value) (ok : Bool) (n i : Int) (xs bx : List Value) (B : List Value → AH → Prop) (Q : AExit → List Value → AH → Prop) :
    once 0 Tryz.prog (SFv x ok) [] noHooks 600 90 [1, 64, 65, 66] [0] [1, 2] [0] (oneLoop (codeOf Tryz.f30) 21) [p0V, fz ⟨xs⟩, .int .i64 n, .int .i64 i] (fvH bx) B Q =
      bif decide (i < n) then bif decide (0 ≤ i) && decide (i < ((Array.mk xs).size : Int)) && Nat.beq (e6 (elV xs i)).cells.size 6 then elV xs i = e6 (elV xs i) ∧
        (bif eqV (e6 (elV xs i)) x && ok then NoNames (bxO bx) ∧ B [p0V, fz ⟨xs⟩, .int .i64 n, .int .i64 (IntKind.i64.wrap (i + 1))] (fvH bx) else False) else False
      else NoNames (bxO bx) ∧ Q (.exit 3) [p0V, anyV] (fvH bx) := by kernel_rfl
theorem fv2 (x : Value) (ok : Bool) (n i : Int) (xs bx : List Value) (B : List Value → AH → Prop) (Q : AExit → List Value → AH → Prop) :
    once 0 Tryz.prog (SFv x ok) [] noHooks 600 90 [77, 78, 79] [] [2] [] (oneLoop (codeOf Tryz.f30) 28) [fz ⟨xs⟩, .int .i64 n, .int .i64 i] h0 B Q =
      bif decide (i < n) then bif decide (0 ≤ i) && decide (i < ((Array.mk xs).size : Int)) && Nat.beq (e7 (elV xs i)).cells.size 7 then elV xs i = e7 (elV xs i) ∧
        (bif eqV (m6 (elV xs i)) x && ok then B [fz ⟨xs⟩, .int .i64 n, .int .i64 (IntKind.i64.wrap (i + 1))] h0 else False) else False
      else Q (.exit 5) [anyV] h0 := by kernel_rfl
theorem fv1_loop {bx : List Value} (hbx : NoNames (bxO bx)) (K : AExit → List Value → AH → Prop) (xs : List Value) (hl : xs.length ≤ 5000) : ∀ (zs : List Value) (i : Nat), xs.drop i = zs → i + zs.length = xs.length → (∀ x ∈ zs, x = e6 x ∧ Fv x) →
    K (.exit 3) [p0V, anyV] (fvH bx) → iterE 0 Tryz.prog 90 [1, 64, 65, 66] [0] [1, 2] [0] (oneLoop (codeOf Tryz.f30) 21) (zs.length + 1) [p0V, fz ⟨xs⟩, .int .i64 (xs.length : Int), .int .i64 (i : Int)] (fvH bx) K
  | [], i, _, h2, _, hK => ⟨SFv undef false, [], noHooks, 600, spFv_none.cfg, loops_none _ _ _ _, (fv1 undef false _ _ xs bx _ K).mpr (pick_f (decide_eq_false (by simp at h2; omega)) ⟨hbx, hK⟩)⟩
  | x :: zs, i, h1, h2, h3, hK => by
    have e := elV_at h1
    obtain ⟨g1, g2⟩ := h3 x (by simp)
    have h2 : i + (zs.length + 1) = xs.length := h2
    refine ⟨SFv x true, [], noHooks, 600, (spFv_ok fun _ => g2).cfg, loops_none _ _ _ _, (fv1 x true _ _ xs bx _ K).mpr ?_⟩
    refine pick_t (decide_eq_true (by omega)) (need_mk ?_ ?_)
    · simp only [Bool.and_eq_true, decide_eq_true_eq]
      exact ⟨⟨by omega, by simp; omega⟩, rfl⟩
    · rw [e, ← g1]
      refine ⟨rfl, need_mk (by rw [eqV_self]; rfl) ⟨hbx, ?_⟩⟩
      rw [wrapS (by omega)]
      exact fv1_loop hbx K xs hl zs (i + 1) (by rw [← List.drop_drop, h1]; rfl) (by omega) (fun p hp => h3 p (by simp [hp])) hK
theorem fv2_loop {bx : List Value} (hbx : NoNames (bxO bx)) (K : AExit → List Value → AH → Prop) (xs : List Value) (hl : xs.length ≤ 5000) : ∀ (zs : List Value) (i : Nat), xs.drop i = zs → i + zs.length = xs.length → (∀ x ∈ zs, x = e7 x ∧ Fv (m6 x)) →
    K (.exit 5) [anyV] h0 → iterE 0 Tryz.prog 90 [77, 78, 79] [] [2] [] (oneLoop (codeOf Tryz.f30) 28) (zs.length + 1) [fz ⟨xs⟩, .int .i64 (xs.length : Int), .int .i64 (i : Int)] h0 K
  | [], i, _, h2, _, hK => ⟨SFv undef false, [], noHooks, 600, spFv_none.cfg, loops_none _ _ _ _, (fv2 undef false _ _ xs bx _ K).mpr (pick_f (decide_eq_false (by simp at h2; omega)) hK)⟩
  | x :: zs, i, h1, h2, h3, hK => by
    have e := elV_at h1
    obtain ⟨g1, g2⟩ := h3 x (by simp)
    have h2 : i + (zs.length + 1) = xs.length := h2
    refine ⟨SFv (m6 x) true, [], noHooks, 600, (spFv_ok fun _ => g2).cfg, loops_none _ _ _ _, (fv2 (m6 x) true _ _ xs bx _ K).mpr ?_⟩
    refine pick_t (decide_eq_true (by omega)) (need_mk ?_ ?_)
    · simp only [Bool.and_eq_true, decide_eq_true_eq]
      exact ⟨⟨by omega, by simp; omega⟩, rfl⟩
    · rw [e, ← g1]
      refine ⟨rfl, need_mk (by rw [eqV_self]; rfl) ?_⟩
      rw [wrapS (by omega)]
      exact fv2_loop hbx K xs hl zs (i + 1) (by rw [← List.drop_drop, h1]; rfl) (by omega) (fun p hp => h3 p (by simp [hp])) hK
end Go.Proofs.YtmclppkligkooaaGreatDoor
