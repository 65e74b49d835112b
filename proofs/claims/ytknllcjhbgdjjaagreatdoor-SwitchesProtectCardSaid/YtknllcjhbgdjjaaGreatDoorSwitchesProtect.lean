/-
  'SwitchesProtect' returns true for every list of integers, and leaves what was there as it was.
-/
import Derived.Test.YtknllcjhbgdjjaaGreatDoorSwitchB
import Derived.Below
namespace Go.Proofs.YtknllcjhbgdjjaaGreatDoor
open Go.Ev Go.RowKit

/-- What a slice of integers that came in reads as. -/
def IsRow (k : IntKind) (w : World) (a : Option Addr) (len cap : Nat) (zs : List Int) : Prop :=
  (a = none ∧ len = 0 ∧ cap = 0 ∧ zs = []) ∨
  ∃ x, a = some x ∧ len ≤ cap ∧ cap ≤ maxLen ∧ zs.length = cap ∧ (∀ i, i < zs.length → w.cell? (x.add i) = some (.int k (zs.getD i 0))) ∧ ∀ n ∈ zs, (Lit.int k n).wf = true

theorem IsRow.law {f : FuncId} (hF : ∀ zs : List Int, FnOK 0 Tryz.prog f ⟨[fz (intsV zs)]⟩ h0 (fun v _ => v = .bool true)) (a : Option Addr) (len cap : Nat) (zs : List Int) (w : World) (h : IsRow .i64 w a len cap zs) :
    Calls Tryz.prog f #[.slice a len cap] w fun e w' => e = .returned (.bool true) ∧ Below w.heap.size w w' := by
  refine FnOK.law (zs := zs) (hF _) ?_
  rcases h with h | ⟨x, h1, h2, _, h3, h4, _⟩
  · exact .inl h
  · exact .inr ⟨x, h1, h2, h3, h4⟩

namespace switchesProtect
theorem all (zs : List Int) : FnOK 0 Tryz.prog 5 ⟨[fz (intsV zs)]⟩ h0 (fun v _ => v = .bool true) := by
  have b0 := (nextR_spec zs 3 0 (by omega) (by omega) (by omega) (by omega)).1
  have b2 := (nextR_spec zs 2 2 (by omega) (by omega) (by omega) (by omega)).1
  have c0 : nextR (intsV zs) 0 3 = 0 ∨ nextR (intsV zs) 0 3 = 1 ∨ nextR (intsV zs) 0 3 = 2 := by omega
  have c2 : nextR (intsV zs) 2 2 = 0 ∨ nextR (intsV zs) 2 2 = 1 := by omega
  rcases c0 with c0 | c0 | c0 <;> rcases c2 with c2 | c2
  · exact law00 zs c0 c2
  · exact law01 zs c0 c2
  · exact law10 zs c0 c2
  · exact law11 zs c0 c2
  · exact law20 zs c0 c2
  · exact law21 zs c0 c2

theorem walk (a0 : Option Addr) (len0 cap0 : Nat) (z0 : List Int) (w : World) (w0 : IsRow .i64 w a0 len0 cap0 z0) :
    Calls Tryz.prog 5 #[.slice a0 len0 cap0] w fun e w' => e = .returned (.bool true) ∧ Below w.heap.size w w' := IsRow.law all a0 len0 cap0 z0 w w0
end switchesProtect
end Go.Proofs.YtknllcjhbgdjjaaGreatDoor
