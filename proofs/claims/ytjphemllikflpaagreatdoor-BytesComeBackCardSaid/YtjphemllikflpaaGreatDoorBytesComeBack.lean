/-
  'BytesComeBack' returns true for every list of integers, and leaves what was there as it was.
-/
import Derived.Test.YtjphemllikflpaaGreatDoorByX
import Derived.Below
namespace Go.Proofs.YtjphemllikflpaaGreatDoor
open Go.Ev Go.RowKit RecLaw PathLaw QueryLaw BytesLaw

/-- What a slice of integers that came in reads as. -/
def IsRow (k : IntKind) (w : World) (a : Option Addr) (len cap : Nat) (zs : List Int) : Prop :=
  (a = none ∧ len = 0 ∧ cap = 0 ∧ zs = []) ∨
  ∃ x, a = some x ∧ len ≤ cap ∧ cap ≤ maxLen ∧ zs.length = cap ∧ (∀ i, i < zs.length → w.cell? (x.add i) = some (.int k (zs.getD i 0))) ∧ ∀ n ∈ zs, (Lit.int k n).wf = true

theorem IsRow.law {f : FuncId} (hF : ∀ zs : List Int, FnOK 0 Tryz.prog f ⟨[fz (intsV zs)]⟩ h0 (fun v _ => v = .bool true)) (a : Option Addr) (len cap : Nat) (zs : List Int) (w : World) (h : IsRow .i64 w a len cap zs) (ht : TabsIn Tryz.prog w) :
    Calls Tryz.prog f #[.slice a len cap] w fun e w' => e = .returned (.bool true) ∧ Below w.heap.size w w' := by
  refine FnOK.law (zs := zs) (hF _) ht ?_
  rcases h with h | ⟨x, h1, h2, _, h3, h4, _⟩
  · exact .inl h
  · exact .inr ⟨x, h1, h2, h3, h4⟩

namespace bytesComeBack
theorem all (zs : List Int) : FnOK 0 Tryz.prog 3 ⟨[fz (intsV zs)]⟩ h0 (fun v _ => v = .bool true) := by
  cases h1 : (rrC 9 20 (intsV zs) 3).1.hs.isEmpty with
  | true => cases h2 : (rpC 20 (intsV zs) (rrC 9 20 (intsV zs) 3).2).1.hs.isEmpty with
    | true =>
      obtain ⟨b, m, k, r, a, ⟨g1, g2, g3, g4, g5, g6, g7, g8⟩, hw⟩ := lw_ok zs h1 h2
      exact FnOK.ftree (SLw_ok g1 g2 g3 g4 g5 g6 g7 g8) mixed Tryz.func3 someLW (lw_tt (intsV zs) (bl b) (bl (chkT (chunks k b))) (bl m) (bl (reqT r)) (bl (rspT a)) (k : Int) ((chkT (chunks k b)).length : Int) ((reqT r).length : Int) ((rspT a).length : Int) r a (fun v => v = .bool true)) (hw _ rfl)
    | false =>
      obtain ⟨b, m, k, r, a, ⟨g1, g2, g3, g4, g5, g6, g7, g8⟩, hw⟩ := lw_ok zs h1 h2
      exact FnOK.ftree (SLw_ok g1 g2 g3 g4 g5 g6 g7 g8) mixed Tryz.func3 someLW (lw_tf (intsV zs) (bl b) (bl (chkT (chunks k b))) (bl m) (bl (reqT r)) (bl (rspT a)) (k : Int) ((chkT (chunks k b)).length : Int) ((reqT r).length : Int) ((rspT a).length : Int) r a (fun v => v = .bool true)) (hw _ rfl)
  | false => cases h2 : (rpC 20 (intsV zs) (rrC 9 20 (intsV zs) 3).2).1.hs.isEmpty with
    | true =>
      obtain ⟨b, m, k, r, a, ⟨g1, g2, g3, g4, g5, g6, g7, g8⟩, hw⟩ := lw_ok zs h1 h2
      exact FnOK.ftree (SLw_ok g1 g2 g3 g4 g5 g6 g7 g8) mixed Tryz.func3 someLW (lw_ft (intsV zs) (bl b) (bl (chkT (chunks k b))) (bl m) (bl (reqT r)) (bl (rspT a)) (k : Int) ((chkT (chunks k b)).length : Int) ((reqT r).length : Int) ((rspT a).length : Int) r a (fun v => v = .bool true)) (hw _ rfl)
    | false =>
      obtain ⟨b, m, k, r, a, ⟨g1, g2, g3, g4, g5, g6, g7, g8⟩, hw⟩ := lw_ok zs h1 h2
      exact FnOK.ftree (SLw_ok g1 g2 g3 g4 g5 g6 g7 g8) mixed Tryz.func3 someLW (lw_ff (intsV zs) (bl b) (bl (chkT (chunks k b))) (bl m) (bl (reqT r)) (bl (rspT a)) (k : Int) ((chkT (chunks k b)).length : Int) ((reqT r).length : Int) ((rspT a).length : Int) r a (fun v => v = .bool true)) (hw _ rfl)

theorem walk (a0 : Option Addr) (len0 cap0 : Nat) (z0 : List Int) (w : World) (w0 : IsRow .i64 w a0 len0 cap0 z0) (ht : TabsIn Tryz.prog w) :
    Calls Tryz.prog 3 #[.slice a0 len0 cap0] w fun e w' => e = .returned (.bool true) ∧ Below w.heap.size w w' := IsRow.law all a0 len0 cap0 z0 w w0 ht
end bytesComeBack
end Go.Proofs.YtjphemllikflpaaGreatDoor
