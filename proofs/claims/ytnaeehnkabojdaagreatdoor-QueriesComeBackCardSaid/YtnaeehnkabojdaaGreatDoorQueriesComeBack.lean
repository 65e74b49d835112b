/-
  'QueriesComeBack' returns true for every list of integers, and leaves what was there as it was.
-/
import Derived.Test.YtnaeehnkabojdaaGreatDoorQuL3
import Derived.Below
namespace Go.Proofs.YtnaeehnkabojdaaGreatDoor
open Go.Ev Go.RowKit RecLaw PathLaw QueryLaw

/-- What a slice of integers that came in reads as. -/
def IsRow (k : IntKind) (w : World) (a : Option Addr) (len cap : Nat) (zs : List Int) : Prop :=
  (a = none ∧ len = 0 ∧ cap = 0 ∧ zs = []) ∨
  ∃ x, a = some x ∧ len ≤ cap ∧ cap ≤ maxLen ∧ zs.length = cap ∧ (∀ i, i < zs.length → w.cell? (x.add i) = some (.int k (zs.getD i 0))) ∧ ∀ n ∈ zs, (Lit.int k n).wf = true

theorem IsRow.law {f : FuncId} (hF : ∀ zs : List Int, FnOK 0 Tryz.prog f ⟨[fz (intsV zs)]⟩ h0 (fun v _ => v = .bool true)) (a : Option Addr) (len cap : Nat) (zs : List Int) (w : World) (h : IsRow .i64 w a len cap zs) (ht : TabsIn Tryz.prog w) :
    Calls Tryz.prog f #[.slice a len cap] w fun e w' => e = .returned (.bool true) ∧ Below w.heap.size w w' := by
  refine FnOK.law (zs := zs) (hF _) ht ?_
  rcases h with h | ⟨x, h1, h2, _, h3, h4, _⟩
  · exact .inl h
  · exact .inr ⟨x, h1, h2, h3, h4⟩

namespace queriesComeBack
theorem all (zs : List Int) : FnOK 0 Tryz.prog 3 ⟨[fz (intsV zs)]⟩ h0 (fun v _ => v = .bool true) := by
  have hb := (nextR_spec zs 5 0 (by omega) (by omega) (by omega) (by omega)).1
  have hk : nextR (intsV zs) 0 5 = 0 ∨ nextR (intsV zs) 0 5 = 1 ∨ nextR (intsV zs) 0 5 = 2 ∨ nextR (intsV zs) 0 5 = 3 ∨ nextR (intsV zs) 0 5 = 4 := by omega
  rcases hk with h | h | h | h | h
  · cases h1 : (rrC 11 180 (intsV zs) 1).1.hs.isEmpty with
    | true =>
      have h2 : (noR (rrC 11 180 (intsV zs) 1).1).hs.isEmpty = true := by
        by_cases q : noE (rrC 11 180 (intsV zs) 1).1 = 0
        · rw [hs_map _ q]; exact h1
        · rw [hs_err _ q]; rfl
      exact FnOK.ttree (SLw_ok 0 true true) mixed Tryz.func3 someLW (gh4 0 true true) (lw0_tt (intsV zs) (fun v => v = .bool true)) (drK_mk (by omega) (by omega) h (need_mk (okPs_iff.2 ⟨[], by simp, fun p hp => (by cases hp), rfl⟩) (lwR_ok zs (by omega) (by omega) h1 h2 rfl)))
    | false =>
      cases h2 : (noR (rrC 11 180 (intsV zs) 1).1).hs.isEmpty with
      | false => exact FnOK.ttree (SLw_ok 0 false false) mixed Tryz.func3 someLW (gh4 0 false false) (lw0_ff (intsV zs) (fun v => v = .bool true)) (drK_mk (by omega) (by omega) h (need_mk (okPs_iff.2 ⟨[], by simp, fun p hp => (by cases hp), rfl⟩) (lwR_ok zs (by omega) (by omega) h1 h2 rfl)))
      | true => exact FnOK.ttree (SLw_ok 0 false true) mixed Tryz.func3 someLW (gh4 0 false true) (lw0_ft (intsV zs) (fun v => v = .bool true)) (drK_mk (by omega) (by omega) h (need_mk (okPs_iff.2 ⟨[], by simp, fun p hp => (by cases hp), rfl⟩) (lwR_ok zs (by omega) (by omega) h1 h2 rfl)))
  · cases h1 : (rrC 11 180 (intsV zs) 3).1.hs.isEmpty with
    | true =>
      have h2 : (noR (rrC 11 180 (intsV zs) 3).1).hs.isEmpty = true := by
        by_cases q : noE (rrC 11 180 (intsV zs) 3).1 = 0
        · rw [hs_map _ q]; exact h1
        · rw [hs_err _ q]; rfl
      exact FnOK.ttree (SLw_ok 1 true true) mixed Tryz.func3 someLW (gh4 1 true true) (lw1_tt (intsV zs) (fun v => v = .bool true)) (drK_mk (by omega) (by omega) h (lwD_ok zs 1 1 [] (by omega) (by omega) (fun p hp => by cases hp) (fun L g1 g2 => lwP_ok g1 (fun q => by rw [q] at g2; cases g2) (by rw [g2]; simp) (lwR_ok zs (d := 3) (by omega) (by omega) h1 h2 rfl))))
    | false =>
      cases h2 : (noR (rrC 11 180 (intsV zs) 3).1).hs.isEmpty with
      | false => exact FnOK.ttree (SLw_ok 1 false false) mixed Tryz.func3 someLW (gh4 1 false false) (lw1_ff (intsV zs) (fun v => v = .bool true)) (drK_mk (by omega) (by omega) h (lwD_ok zs 1 1 [] (by omega) (by omega) (fun p hp => by cases hp) (fun L g1 g2 => lwP_ok g1 (fun q => by rw [q] at g2; cases g2) (by rw [g2]; simp) (lwR_ok zs (d := 3) (by omega) (by omega) h1 h2 rfl))))
      | true => exact FnOK.ttree (SLw_ok 1 false true) mixed Tryz.func3 someLW (gh4 1 false true) (lw1_ft (intsV zs) (fun v => v = .bool true)) (drK_mk (by omega) (by omega) h (lwD_ok zs 1 1 [] (by omega) (by omega) (fun p hp => by cases hp) (fun L g1 g2 => lwP_ok g1 (fun q => by rw [q] at g2; cases g2) (by rw [g2]; simp) (lwR_ok zs (d := 3) (by omega) (by omega) h1 h2 rfl))))
  · cases h1 : (rrC 11 180 (intsV zs) 5).1.hs.isEmpty with
    | true =>
      have h2 : (noR (rrC 11 180 (intsV zs) 5).1).hs.isEmpty = true := by
        by_cases q : noE (rrC 11 180 (intsV zs) 5).1 = 0
        · rw [hs_map _ q]; exact h1
        · rw [hs_err _ q]; rfl
      exact FnOK.ttree (SLw_ok 2 true true) mixed Tryz.func3 someLW (gh4 2 true true) (lw2_tt (intsV zs) (fun v => v = .bool true)) (drK_mk (by omega) (by omega) h (lwD_ok zs 2 1 [] (by omega) (by omega) (fun p hp => by cases hp) (fun L g1 g2 => lwP_ok g1 (fun q => by rw [q] at g2; cases g2) (by rw [g2]; simp) (lwR_ok zs (d := 5) (by omega) (by omega) h1 h2 rfl))))
    | false =>
      cases h2 : (noR (rrC 11 180 (intsV zs) 5).1).hs.isEmpty with
      | false => exact FnOK.ttree (SLw_ok 2 false false) mixed Tryz.func3 someLW (gh4 2 false false) (lw2_ff (intsV zs) (fun v => v = .bool true)) (drK_mk (by omega) (by omega) h (lwD_ok zs 2 1 [] (by omega) (by omega) (fun p hp => by cases hp) (fun L g1 g2 => lwP_ok g1 (fun q => by rw [q] at g2; cases g2) (by rw [g2]; simp) (lwR_ok zs (d := 5) (by omega) (by omega) h1 h2 rfl))))
      | true => exact FnOK.ttree (SLw_ok 2 false true) mixed Tryz.func3 someLW (gh4 2 false true) (lw2_ft (intsV zs) (fun v => v = .bool true)) (drK_mk (by omega) (by omega) h (lwD_ok zs 2 1 [] (by omega) (by omega) (fun p hp => by cases hp) (fun L g1 g2 => lwP_ok g1 (fun q => by rw [q] at g2; cases g2) (by rw [g2]; simp) (lwR_ok zs (d := 5) (by omega) (by omega) h1 h2 rfl))))
  · cases h1 : (rrC 11 180 (intsV zs) 7).1.hs.isEmpty with
    | true =>
      have h2 : (noR (rrC 11 180 (intsV zs) 7).1).hs.isEmpty = true := by
        by_cases q : noE (rrC 11 180 (intsV zs) 7).1 = 0
        · rw [hs_map _ q]; exact h1
        · rw [hs_err _ q]; rfl
      exact FnOK.ttree (SLw_ok 3 true true) mixed Tryz.func3 someLW (gh4 3 true true) (lw3_tt (intsV zs) (fun v => v = .bool true)) (drK_mk (by omega) (by omega) h (lwD_ok zs 3 1 [] (by omega) (by omega) (fun p hp => by cases hp) (fun L g1 g2 => lwP_ok g1 (fun q => by rw [q] at g2; cases g2) (by rw [g2]; simp) (lwR_ok zs (d := 7) (by omega) (by omega) h1 h2 rfl))))
    | false =>
      cases h2 : (noR (rrC 11 180 (intsV zs) 7).1).hs.isEmpty with
      | false => exact FnOK.ttree (SLw_ok 3 false false) mixed Tryz.func3 someLW (gh4 3 false false) (lw3_ff (intsV zs) (fun v => v = .bool true)) (drK_mk (by omega) (by omega) h (lwD_ok zs 3 1 [] (by omega) (by omega) (fun p hp => by cases hp) (fun L g1 g2 => lwP_ok g1 (fun q => by rw [q] at g2; cases g2) (by rw [g2]; simp) (lwR_ok zs (d := 7) (by omega) (by omega) h1 h2 rfl))))
      | true => exact FnOK.ttree (SLw_ok 3 false true) mixed Tryz.func3 someLW (gh4 3 false true) (lw3_ft (intsV zs) (fun v => v = .bool true)) (drK_mk (by omega) (by omega) h (lwD_ok zs 3 1 [] (by omega) (by omega) (fun p hp => by cases hp) (fun L g1 g2 => lwP_ok g1 (fun q => by rw [q] at g2; cases g2) (by rw [g2]; simp) (lwR_ok zs (d := 7) (by omega) (by omega) h1 h2 rfl))))
  · cases h1 : (rrC 11 180 (intsV zs) 9).1.hs.isEmpty with
    | true =>
      have h2 : (noR (rrC 11 180 (intsV zs) 9).1).hs.isEmpty = true := by
        by_cases q : noE (rrC 11 180 (intsV zs) 9).1 = 0
        · rw [hs_map _ q]; exact h1
        · rw [hs_err _ q]; rfl
      exact FnOK.ttree (SLw_ok 4 true true) mixed Tryz.func3 someLW (gh4 4 true true) (lw4_tt (intsV zs) (fun v => v = .bool true)) (drK_mk (by omega) (by omega) h (lwD_ok zs 4 1 [] (by omega) (by omega) (fun p hp => by cases hp) (fun L g1 g2 => lwP_ok g1 (fun q => by rw [q] at g2; cases g2) (by rw [g2]; simp) (lwR_ok zs (d := 9) (by omega) (by omega) h1 h2 rfl))))
    | false =>
      cases h2 : (noR (rrC 11 180 (intsV zs) 9).1).hs.isEmpty with
      | false => exact FnOK.ttree (SLw_ok 4 false false) mixed Tryz.func3 someLW (gh4 4 false false) (lw4_ff (intsV zs) (fun v => v = .bool true)) (drK_mk (by omega) (by omega) h (lwD_ok zs 4 1 [] (by omega) (by omega) (fun p hp => by cases hp) (fun L g1 g2 => lwP_ok g1 (fun q => by rw [q] at g2; cases g2) (by rw [g2]; simp) (lwR_ok zs (d := 9) (by omega) (by omega) h1 h2 rfl))))
      | true => exact FnOK.ttree (SLw_ok 4 false true) mixed Tryz.func3 someLW (gh4 4 false true) (lw4_ft (intsV zs) (fun v => v = .bool true)) (drK_mk (by omega) (by omega) h (lwD_ok zs 4 1 [] (by omega) (by omega) (fun p hp => by cases hp) (fun L g1 g2 => lwP_ok g1 (fun q => by rw [q] at g2; cases g2) (by rw [g2]; simp) (lwR_ok zs (d := 9) (by omega) (by omega) h1 h2 rfl))))

theorem walk (a0 : Option Addr) (len0 cap0 : Nat) (z0 : List Int) (w : World) (w0 : IsRow .i64 w a0 len0 cap0 z0) (ht : TabsIn Tryz.prog w) :
    Calls Tryz.prog 3 #[.slice a0 len0 cap0] w fun e w' => e = .returned (.bool true) ∧ Below w.heap.size w w' := IsRow.law all a0 len0 cap0 z0 w w0 ht
end queriesComeBack
end Go.Proofs.YtnaeehnkabojdaaGreatDoor
