/-
  'CachesStay' returns true for every list of integers, and leaves what was there as it was.
-/
import Derived.Test.YtddhljigbchemaaGreatDoorDraw
import Derived.Below
namespace Go.Proofs.YtddhljigbchemaaGreatDoor
open Go.Ev Go.RowKit

/-- What a slice of integers that came in reads as. -/
def IsRow (k : IntKind) (w : World) (a : Option Addr) (len cap : Nat) (zs : List Int) : Prop :=
  (a = none ∧ len = 0 ∧ cap = 0 ∧ zs = []) ∨
  ∃ x, a = some x ∧ len ≤ cap ∧ cap ≤ maxLen ∧ zs.length = cap ∧ (∀ i, i < zs.length → w.cell? (x.add i) = some (.int k (zs.getD i 0))) ∧ ∀ n ∈ zs, (Lit.int k n).wf = true

theorem IsRow.law {f : FuncId} (hF : ∀ zs : List Int, FnOK 0 Tryz.prog f ⟨[fz (intsV zs)]⟩ h0 (fun v _ => v = .bool true)) (a : Option Addr) (len cap : Nat) (zs : List Int) (w : World) (h : IsRow .i64 w a len cap zs) :
    Calls Tryz.prog f #[.slice a len cap] w fun e w' => e = .returned (.bool true) ∧ Below w.heap.size w w' := by
  refine FnOK.law (zs := zs) (hF _) ?_
  rcases h with h | ⟨x, h1, h2, _, h3, h4, _⟩
  · exact .inl h
  · exact .inr ⟨x, h1, h2, h3, h4⟩

noncomputable def spL (known : List (Option Int)) : Ev.Spec := spOr spReady (spNext known)
noncomputable def SL (known : List (Option Int)) : SC := ⟨idn, spL known, false⟩
theorem SL_ok (known : List (Option Int)) : (SL known).cfg.OK Tryz.prog := (SpOK.or spReady_ok (spNext_ok known)).cfg
theorem some4 : Tryz.f4.body.isSome = true := by kernel_rfl

theorem cs0 (xs : Array Value) (Q : Value → Prop) : (ffn Tryz.prog (SL [some 0]) [] 10000 [] Tryz.f4 [fz xs] h0 (fun v _ => Q v)) =
    bif decide (nextR xs 0 2 = 0) && allInts xs then Q (Value.bool (bif true then true else false)) else False := by kernel_rfl
theorem cs1 (xs : Array Value) (Q : Value → Prop) : (ffn Tryz.prog (SL [some 1]) [] 10000 [] Tryz.f4 [fz xs] h0 (fun v _ => Q v)) =
    bif decide (nextR xs 0 2 = 1) && allInts xs then Q (Value.bool (bif true then true else false)) else False := by kernel_rfl

namespace cachesStay
theorem one0 (zs : List Int) (k0 : nextR (intsV zs) 0 2 = 0) : FnOK 0 Tryz.prog 4 ⟨[fz (intsV zs)]⟩ h0 (fun v _ => v = .bool true) := by
  refine FnOK.ftree (SL_ok _) mixed Tryz.func4 some4 (cs0 (intsV zs) fun v => v = .bool true) ?_
  have ha := allInts_intsV zs
  simp only [ha, k0, decide_true, Bool.and_true, cond_true]
theorem one1 (zs : List Int) (k0 : nextR (intsV zs) 0 2 = 1) : FnOK 0 Tryz.prog 4 ⟨[fz (intsV zs)]⟩ h0 (fun v _ => v = .bool true) := by
  refine FnOK.ftree (SL_ok _) mixed Tryz.func4 some4 (cs1 (intsV zs) fun v => v = .bool true) ?_
  have ha := allInts_intsV zs
  simp only [ha, k0, decide_true, Bool.and_true, cond_true]
theorem all (zs : List Int) : FnOK 0 Tryz.prog 4 ⟨[fz (intsV zs)]⟩ h0 (fun v _ => v = .bool true) := by
  have b0 := (nextR_spec zs 2 0 (by omega) (by omega) (by omega) (by omega)).1
  have c0 : nextR (intsV zs) 0 2 = 0 ∨ nextR (intsV zs) 0 2 = 1 := by omega
  rcases c0 with c0 | c0
  · exact one0 zs c0
  · exact one1 zs c0

theorem walk (a0 : Option Addr) (len0 cap0 : Nat) (z0 : List Int) (w : World) (w0 : IsRow .i64 w a0 len0 cap0 z0) :
    Calls Tryz.prog 4 #[.slice a0 len0 cap0] w fun e w' => e = .returned (.bool true) ∧ Below w.heap.size w w' := IsRow.law all a0 len0 cap0 z0 w w0
end cachesStay
end Go.Proofs.YtddhljigbchemaaGreatDoor
