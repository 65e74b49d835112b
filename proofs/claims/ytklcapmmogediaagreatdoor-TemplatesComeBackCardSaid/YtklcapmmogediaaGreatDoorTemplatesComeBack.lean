/-
  'TemplatesComeBack' returns true for every list of integers, and leaves what was there as it was.
-/
import Derived.Test.YtklcapmmogediaaGreatDoorTpH
import Derived.Below
namespace Go.Proofs.YtklcapmmogediaaGreatDoor
open Go.Ev Go.RowKit TplLaw

/-- What a slice of integers that came in reads as. -/
def IsRow (k : IntKind) (w : World) (a : Option Addr) (len cap : Nat) (zs : List Int) : Prop :=
  (a = none ∧ len = 0 ∧ cap = 0 ∧ zs = []) ∨
  ∃ x, a = some x ∧ len ≤ cap ∧ cap ≤ maxLen ∧ zs.length = cap ∧ (∀ i, i < zs.length → w.cell? (x.add i) = some (.int k (zs.getD i 0))) ∧ ∀ n ∈ zs, (Lit.int k n).wf = true

theorem IsRow.law {f : FuncId} (hF : ∀ zs : List Int, FnOK 0 Tryz.prog f ⟨[fz (intsV zs)]⟩ h0 (fun v _ => v = .bool true)) (a : Option Addr) (len cap : Nat) (zs : List Int) (w : World) (h : IsRow .i64 w a len cap zs) :
    Calls Tryz.prog f #[.slice a len cap] w fun e w' => e = .returned (.bool true) ∧ Below w.heap.size w w' := by
  refine FnOK.law (zs := zs) (hF _) ?_
  rcases h with h | ⟨x, h1, h2, _, h3, h4, _⟩
  · exact .inl h
  · exact .inr ⟨x, h1, h2, h3, h4⟩

namespace templatesComeBack
theorem all (zs : List Int) : FnOK 0 Tryz.prog 3 ⟨[fz (intsV zs)]⟩ h0 (fun v _ => v = .bool true) := by
  obtain ⟨hL, _, _, _⟩ := tpC_ok zs
  refine FnOK.ftree SLf_ok mixed Tryz.func3 someLW (lw F0 (intsV zs) (fun v => v = .bool true)) ?_
  have hv : okV ((tpC (intsV zs)).1.map ptV) = true := okV_map hL
  obtain ⟨_, t2, _⟩ := ttC_ok hv
  refine need_mk (allInts_intsV zs) (need_mk hv ?_)
  show bif (ttC ((tpC (intsV zs)).1.map ptV)).2 == 0 then _ else _
  by_cases he : (ttC ((tpC (intsV zs)).1.map ptV)).2 = 0
  · obtain ⟨M, hM, hx⟩ := t2 he
    have ho : okTx (ttC ((tpC (intsV zs)).1.map ptV)).1 = true := okTx_iff.2 ⟨M, hM, hx⟩
    obtain ⟨p1, p2, _⟩ := prC_ok ho
    have hv2 : okV ((prC (ttC ((tpC (intsV zs)).1.map ptV)).1).map ptV) = true := okV_map (okP_ln p1)
    obtain ⟨_, _, u3⟩ := ttC_ok hv2
    have hu := u3 _ p1 rfl
    refine pick_t (by rw [he]; rfl) (need_mk ho (need_mk hv2 (pick_t ?_ (pick_t ?_ rfl))))
    · show ((ttC ((prC (ttC ((tpC (intsV zs)).1.map ptV)).1).map ptV)).2 == 0) = true
      rw [hu]; rfl
    · show ((ttC ((prC (ttC ((tpC (intsV zs)).1.map ptV)).1).map ptV)).1.toList == (ttC ((tpC (intsV zs)).1.map ptV)).1.toList) = true
      rw [hu, ← p2]
      exact beq_self_eq_true _
  · exact pick_f (beq_eq_false_iff_ne.2 he) rfl

theorem walk (a0 : Option Addr) (len0 cap0 : Nat) (z0 : List Int) (w : World) (w0 : IsRow .i64 w a0 len0 cap0 z0) :
    Calls Tryz.prog 3 #[.slice a0 len0 cap0] w fun e w' => e = .returned (.bool true) ∧ Below w.heap.size w w' := IsRow.law all a0 len0 cap0 z0 w w0
end templatesComeBack
end Go.Proofs.YtklcapmmogediaaGreatDoor
