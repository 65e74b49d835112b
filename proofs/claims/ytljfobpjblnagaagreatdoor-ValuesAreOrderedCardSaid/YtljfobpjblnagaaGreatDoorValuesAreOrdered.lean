/-
  'ValuesAreOrdered' returns true for every list of integers, and leaves what was there as it was.
-/
import Derived.Test.YtljfobpjblnagaaGreatDoorVaLw
import Derived.Below
namespace Go.Proofs.YtljfobpjblnagaaGreatDoor
open Go.Ev Go.RowKit

/-- What a slice of integers that came in reads as. -/
def IsRow (k : IntKind) (w : World) (a : Option Addr) (len cap : Nat) (zs : List Int) : Prop :=
  (a = none ∧ len = 0 ∧ cap = 0 ∧ zs = []) ∨
  ∃ x, a = some x ∧ len ≤ cap ∧ cap ≤ maxLen ∧ zs.length = cap ∧ (∀ i, i < zs.length → w.cell? (x.add i) = some (.int k (zs.getD i 0))) ∧ ∀ n ∈ zs, (Lit.int k n).wf = true

theorem IsRow.law {f : FuncId} (hF : ∀ zs : List Int, FnOK 0 Tryz.prog f ⟨[fz (intsV zs)]⟩ h0 (fun v _ => v = .bool true)) (a : Option Addr) (len cap : Nat) (zs : List Int) (w : World) (h : IsRow .i64 w a len cap zs) (ht : TabsIn Tryz.prog w) :
    Calls Tryz.prog f #[.slice a len cap] w fun e w' => e = .returned (.bool true) ∧ Below w.heap.size w w' := by
  refine FnOK.law (zs := zs) (hF _) ht ?_
  rcases h with h | ⟨x, h1, h2, _, h3, h4, _⟩
  · exact .inl h
  · exact .inr ⟨x, h1, h2, h3, h4⟩

namespace valuesAreOrdered
theorem all (zs : List Int) : FnOK 0 Tryz.prog 3 ⟨[fz (intsV zs)]⟩ h0 (fun v _ => v = .bool true) := by
  obtain ⟨g1, g2, g3, g4⟩ := rvQ_ok zs (e := 0) (by omega) (by omega)
  have hr : okR (enc 2 (rvQ (intsV zs) 0).1) = true := okR_iff.2 ⟨_, g1, rfl⟩
  obtain ⟨n1, n2, n3, n4⟩ := nrQ_ok zs hr g2 (by omega)
  obtain ⟨c1, c2, c3, c4⟩ := rvQ_ok zs (e := (nrQ (intsV zs) (rvQ (intsV zs) 0).2 (enc 2 (rvQ (intsV zs) 0).1)).2) (by omega) (by omega)
  refine FnOK.ftree SL_ok mixed Tryz.func3 someLW (lw_eq (intsV zs) (fun v => v = .bool true)) (need_mk (allInts_intsV zs) (need_mk ?_ (need_mk ?_ (lwT_mk (okV_two g1) (okV_iff.2 ⟨_, n1, rfl⟩) (okV_two c1)))))
  · rw [hr, allInts_intsV, decide_eq_true (by omega), decide_eq_true (by omega)]; rfl
  · rw [allInts_intsV, decide_eq_true (by omega), decide_eq_true (by omega)]; rfl

theorem walk (a0 : Option Addr) (len0 cap0 : Nat) (z0 : List Int) (w : World) (w0 : IsRow .i64 w a0 len0 cap0 z0) (ht : TabsIn Tryz.prog w) :
    Calls Tryz.prog 3 #[.slice a0 len0 cap0] w fun e w' => e = .returned (.bool true) ∧ Below w.heap.size w w' := IsRow.law all a0 len0 cap0 z0 w w0 ht
end valuesAreOrdered
end Go.Proofs.YtljfobpjblnagaaGreatDoor
