/-
  Runs of 'least', each once: part what is said.
-/
import Derived.Test.YtklednomnpghcaaGreatDoorScopeR
namespace Go.Proofs.YtklednomnpghcaaGreatDoor
open Go.Ev Go.RowKit ScopeLaw

/-- What 'least' comes to on a list that is so in order. -/
def LR (R : List (List UInt8)) : Prop := R ≠ [] → ∀ (vs : List Value) (Q : Value → Option Obj → Prop), ffn Tryz.prog (SL R) [] 3000 [] Tryz.f33 [fz ⟨vs⟩] h0 (fun v h => Q v (h.get (blkOf v))) =
  cond (risB vs R) (Q (.slice (some ⟨2, 0, none⟩) (leastL covB R).length R.length) (some (.cells ⟨(leastL covB R ++ List.replicate (R.length - (leastL covB R).length) []).map scp⟩ 9 (0, 0)))) False
end Go.Proofs.YtklednomnpghcaaGreatDoor
