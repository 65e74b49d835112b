/-
  Paths: what is told of single bytes, by closed runs.
-/
import Derived.Test.YtklednomnpghcaaGreatDoorByA
namespace Go.Proofs.YtklednomnpghcaaGreatDoor
open Go.Ev Go.RowKit RecLaw PathLaw

/-- A closed run. -/
def arunz (P : Program) (C : Cfg) (n : Nat) (fn : Func) (args : List Value) (h : AH) : Option (Value × AH) :=
  match acode P C n (codeOf fn) (frame fn args) h with
  | some (.exit _, _, _) => none
  | some (_, τ', h') => match aresultV P τ' h' fn.results.toList with
    | some v => some (v, h')
    | none => none
  | none => none
theorem arunz_ok {p : Nat} {P : Program} {C : Cfg} (hC : C.OK P) (hm : P.follows .mixedOrders = true) {n : Nat} {f : FuncId} {fn : Func} {args : List Value} {h h' : AH} {v : Value} (hfn : P.funcs[f]? = some fn) (hc : fn.body.isSome = true)
    (hr : arunz P C n fn args h = some (v, h')) : FnOK p P f ⟨args⟩ h (fun u g => u = v ∧ g = h') := by
  unfold arunz at hr
  split at hr
  · cases hr
  · rename_i e τ' h1 hne ha
    split at hr
    · rename_i u hu
      cases hr
      refine FnOK.tri hfn hc (Tri.acode hC hm ha ?_)
      cases e with
      | exit i => exact (hne i rfl).elim
      | normal => simp [ends, hu, lift]
      | ret => simp [ends, hu, lift]
    · cases hr
  · cases hr
def u8V (c : UInt8) : Value := .int .u8 (c.toNat : Int)
theorem n_u8 {n : Int} (h0 : 0 ≤ n) (h1 : n < 256) : n.toNat ∈ List.range 256 ∧ ((n.toNat : Nat) : Int) = n := ⟨List.mem_range.2 (by omega), Int.toNat_of_nonneg h0⟩
def byI (n : Int) : UInt8 := UInt8.ofNat n.toNat
theorem byI_of (c : UInt8) : byI (c.toNat : Int) = c := by
  unfold byI
  rw [Int.toNat_natCast, UInt8.ofNat_toNat]
end Go.Proofs.YtklednomnpghcaaGreatDoor
