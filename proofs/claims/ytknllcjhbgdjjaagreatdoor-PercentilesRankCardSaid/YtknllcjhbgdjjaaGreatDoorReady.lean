/-
  'ready' of this package returns true in every world, and leaves what was there as it was: run by the kernel, through the abstract evaluator.
-/
import Derived.Test.YtknllcjhbgdjjaaGreatDoorProg
import Derived.Test.YtknllcjhbgdjjaaGreatDoorEvC
import Derived.KernelRfl
namespace Go.Proofs.YtknllcjhbgdjjaaGreatDoor
open Go.Ev Go.RowKit

theorem noEscape (x : Value) (w : World) : (callFunc 161 #[x]).run Tryz.prog w = .ok (.value x) w := by kernel_rfl
theorem mixed : Tryz.prog.follows .mixedOrders = true := by kernel_rfl
theorem ready_run : isTrue (acall Tryz.prog (cfg1 161) 10000 12 #[] ⟨0, 0, []⟩) = true := by kernel_rfl
/-- ready() -/
theorem ready_calls (w : World) : Calls Tryz.prog 12 #[] w fun e w' => e = .returned (.bool true) ∧ Below w.heap.size w w' :=
  closed_true (cfg1_ok noEscape) mixed ready_run w

end Go.Proofs.YtknllcjhbgdjjaaGreatDoor
