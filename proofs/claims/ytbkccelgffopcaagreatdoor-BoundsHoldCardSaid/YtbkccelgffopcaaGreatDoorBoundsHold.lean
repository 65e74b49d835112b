/-
  'BoundsHold' returns true for every list of integers, and leaves what was there as it was.
-/
import Derived.Test.YtbkccelgffopcaaGreatDoorBhC
import Derived.Below
namespace Go.Proofs.YtbkccelgffopcaaGreatDoor
open Go.Ev Go.RowKit

/-- What a slice of integers that came in reads as. -/
def IsRow (k : IntKind) (w : World) (a : Option Addr) (len cap : Nat) (zs : List Int) : Prop :=
  (a = none ∧ len = 0 ∧ cap = 0 ∧ zs = []) ∨
  ∃ x, a = some x ∧ len ≤ cap ∧ cap ≤ maxLen ∧ zs.length = cap ∧ (∀ i, i < zs.length → w.cell? (x.add i) = some (.int k (zs.getD i 0))) ∧ ∀ n ∈ zs, (Lit.int k n).wf = true

theorem IsRow.law {f : FuncId} (hF : ∀ zs : List Int, FnOK 0 Tryz.prog f ⟨[fz (intsV zs)]⟩ h0 (fun v _ => v = .bool true)) (a : Option Addr) (len cap : Nat) (zs : List Int) (w : World) (h : IsRow .i64 w a len cap zs) :
    Calls Tryz.prog f #[.slice a len cap] w fun e w' => e = .returned (.bool true) ∧ Below w.heap.size w w' := by
  refine FnOK.law (zs := zs) (hF _) ?_
  rcases h with h | ⟨x, h1, h2, _, h3, h4, _⟩
  · exact .inl h
  · exact .inr ⟨x, h1, h2, h3, h4⟩

namespace boundsHold
theorem all (zs : List Int) : FnOK 0 Tryz.prog 4 ⟨[fz (intsV zs)]⟩ h0 (fun v _ => v = .bool true) := by
  by_cases f0_0 : nextR (intsV zs) 0 4 = 0
  · by_cases f1_1 : nextR (intsV zs) 1 4 = 0
    · by_cases f2_2 : nextR (intsV zs) 2 4 = 0
      · exact law0001 zs f0_0 f1_1 f2_2
      · by_cases f3_4 : nextR (intsV zs) 4 4 = 0
        · exact law0010 zs f0_0 f1_1 f2_2 f3_4
        · exact law0011 zs f0_0 f1_1 f2_2 f3_4
    · by_cases f2_3 : nextR (intsV zs) 3 4 = 0
      · by_cases f3_4 : nextR (intsV zs) 4 4 = 0
        · exact law0100 zs f0_0 f1_1 f2_3 f3_4
        · exact law0101 zs f0_0 f1_1 f2_3 f3_4
      · by_cases f3_5 : nextR (intsV zs) 5 4 = 0
        · exact law0110 zs f0_0 f1_1 f2_3 f3_5
        · exact law0111 zs f0_0 f1_1 f2_3 f3_5
  · by_cases f1_2 : nextR (intsV zs) 2 4 = 0
    · by_cases f2_3 : nextR (intsV zs) 3 4 = 0
      · by_cases f3_4 : nextR (intsV zs) 4 4 = 0
        · exact law1000 zs f0_0 f1_2 f2_3 f3_4
        · exact law1001 zs f0_0 f1_2 f2_3 f3_4
      · by_cases f3_5 : nextR (intsV zs) 5 4 = 0
        · exact law1010 zs f0_0 f1_2 f2_3 f3_5
        · exact law1011 zs f0_0 f1_2 f2_3 f3_5
    · by_cases f2_4 : nextR (intsV zs) 4 4 = 0
      · by_cases f3_5 : nextR (intsV zs) 5 4 = 0
        · exact law1100 zs f0_0 f1_2 f2_4 f3_5
        · exact law1101 zs f0_0 f1_2 f2_4 f3_5
      · by_cases f3_6 : nextR (intsV zs) 6 4 = 0
        · exact law1110 zs f0_0 f1_2 f2_4 f3_6
        · exact law1111 zs f0_0 f1_2 f2_4 f3_6

theorem walk (a0 : Option Addr) (len0 cap0 : Nat) (z0 : List Int) (w : World) (w0 : IsRow .i64 w a0 len0 cap0 z0) :
    Calls Tryz.prog 4 #[.slice a0 len0 cap0] w fun e w' => e = .returned (.bool true) ∧ Below w.heap.size w w' := IsRow.law all a0 len0 cap0 z0 w w0
end boundsHold
end Go.Proofs.YtbkccelgffopcaaGreatDoor
