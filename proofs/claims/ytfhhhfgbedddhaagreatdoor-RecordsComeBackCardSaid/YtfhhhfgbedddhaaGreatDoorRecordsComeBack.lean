/-
  'RecordsComeBack' returns true for every list of integers, and leaves what was there as it was.
-/
import Derived.Test.YtfhhhfgbedddhaaGreatDoorRcH
import Derived.Below
namespace Go.Proofs.YtfhhhfgbedddhaaGreatDoor
open Go.Ev Go.RowKit RecLaw

/-- What a slice of integers that came in reads as. -/
def IsRow (k : IntKind) (w : World) (a : Option Addr) (len cap : Nat) (zs : List Int) : Prop :=
  (a = none ∧ len = 0 ∧ cap = 0 ∧ zs = []) ∨
  ∃ x, a = some x ∧ len ≤ cap ∧ cap ≤ maxLen ∧ zs.length = cap ∧ (∀ i, i < zs.length → w.cell? (x.add i) = some (.int k (zs.getD i 0))) ∧ ∀ n ∈ zs, (Lit.int k n).wf = true

theorem IsRow.law {f : FuncId} (hF : ∀ zs : List Int, FnOK 0 Tryz.prog f ⟨[fz (intsV zs)]⟩ h0 (fun v _ => v = .bool true)) (a : Option Addr) (len cap : Nat) (zs : List Int) (w : World) (h : IsRow .i64 w a len cap zs) (ht : TabsIn Tryz.prog w) :
    Calls Tryz.prog f #[.slice a len cap] w fun e w' => e = .returned (.bool true) ∧ Below w.heap.size w w' := by
  refine FnOK.law (zs := zs) (hF _) ht ?_
  rcases h with h | ⟨x, h1, h2, _, h3, h4, _⟩
  · exact .inl h
  · exact .inr ⟨x, h1, h2, h3, h4⟩

namespace recordsComeBack
theorem all (zs : List Int) : FnOK 0 Tryz.prog 3 ⟨[fz (intsV zs)]⟩ h0 (fun v _ => v = .bool true) := by
  have hb := (nextR_spec zs 6 0 (by omega) (by omega) (by omega) (by omega)).1
  have hw : lwN (intsV zs) = nextR (intsV zs) 0 6 := by
    unfold lwN
    rw [Int.zero_add]
    exact wrap_id _ (by omega) (by omega)
  obtain ⟨hL, _⟩ := grC_ok zs (n := lwN (intsV zs)) (by omega) (by omega)
  refine FnOK.ftree SLw_ok mixed Tryz.func3 someLW (lw (intsV zs) (fun v => v = .bool true)) ?_
  have hv : okV (lwV (intsV zs)) = true := okV_map hL
  have hck := (ckC_ok hv).2 _ hL rfl
  have hrf := (rfC_ok hv).2 _ hL rfl
  refine need_mk (allInts_intsV zs) (need_mk (by rw [allInts_intsV]; simp; omega) (need_mk hv ?_))
  by_cases he : ckC (lwV (intsV zs)) = 0
  · have ho := hck.1 he
    have hS : txS (lwV (intsV zs)) = bl (text (grC (intsV zs) (lwN (intsV zs))).1) := by
      unfold txS
      rw [he]
      show bl (text (unL ((grC (intsV zs) (lwN (intsV zs))).1.map rcV))) = _
      rw [unL_map]
    have hT : Tx (grC (intsV zs) (lwN (intsV zs))).1 := ⟨hL.1, okL_all hL ho⟩
    refine pick_t (by rw [he]; rfl) (need_mk (okRt_iff.2 ⟨_, hT, ho, hS⟩) (need_mk ?_ rfl))
    rw [hS, txC_bl hT]
    unfold okEq
    rw [show lwV (intsV zs) = (grC (intsV zs) (lwN (intsV zs))).1.map rcV from rfl, okV_map hL]
    simp
  · refine pick_f (beq_eq_false_iff_ne.2 he) (need_mk hv (pick_t ?_ rfl))
    exact bne_iff_ne.2 fun q => he (hck.2 (hrf.1 q))

theorem walk (a0 : Option Addr) (len0 cap0 : Nat) (z0 : List Int) (w : World) (w0 : IsRow .i64 w a0 len0 cap0 z0) (ht : TabsIn Tryz.prog w) :
    Calls Tryz.prog 3 #[.slice a0 len0 cap0] w fun e w' => e = .returned (.bool true) ∧ Below w.heap.size w w' := IsRow.law all a0 len0 cap0 z0 w w0 ht
end recordsComeBack
end Go.Proofs.YtfhhhfgbedddhaaGreatDoor
