/-
  Requests: hosts, told by a table.
-/
import Derived.Test.YtjphemllikflpaaGreatDoorByB
namespace PathLaw
/-- Hosts, their normal form, what is wrong. -/
def hostT : List (List UInt8 × List UInt8 × Int) := [
  ([97, 46, 98], [97, 46, 98], 0),
  ([65, 46, 66], [97, 46, 98], 0),
  ([115, 104, 111, 112, 46, 101, 120, 97, 109, 112, 108, 101], [115, 104, 111, 112, 46, 101, 120, 97, 109, 112, 108, 101], 0),
  ([97, 46, 98, 58, 56, 48], [97, 46, 98], 0),
  ([97, 46, 98, 58, 52, 52, 51], [97, 46, 98], 0),
  ([97, 46, 98, 58, 56, 48, 56, 48], [97, 46, 98, 58, 56, 48, 56, 48], 0),
  ([120, 45, 49, 46, 121], [120, 45, 49, 46, 121], 0),
  ([49, 46, 50, 46, 51, 46, 52], [49, 46, 50, 46, 51, 46, 52], 0),
  ([99, 46, 100, 58, 56, 48, 56, 48], [99, 46, 100, 58, 56, 48, 56, 48], 0),
  ([], [], 3),
  ([97, 46, 46, 98], [], 3),
  ([45, 97, 46, 98], [], 3),
  ([97, 46, 98, 58, 48], [], 3),
  ([97, 46, 98, 58, 48, 56], [], 3),
  ([97, 46, 98, 58, 54, 53, 53, 51, 54], [], 3),
  ([97, 95, 98], [], 3),
  ([97, 46, 98, 58], [], 3),
  ([97, 32, 98], [], 3),
  ([97, 97, 97, 97, 97, 97, 97, 97, 97, 97, 97, 97, 97, 97, 97, 97, 97, 97, 97, 97, 97, 97, 97, 97, 97, 97, 97, 97, 97, 97, 97, 97, 97, 97, 97, 97, 97, 97, 97, 97, 97, 97, 97, 97, 97, 97, 97, 97, 97, 97, 97, 97, 97, 97, 97, 97, 97, 97, 97, 97, 97, 97, 97, 97], [], 3)]
def nhF (s : List UInt8) : List UInt8 × Int := match hostT.find? (fun t => t.1 == s) with
  | some t => t.2
  | none => ([], 3)
def hosts : List (List UInt8) := hostT.map (·.1)
theorem host_ok : ∀ s ∈ hosts, (nhF s).2 = 0 → (nhF s).1 ∈ hosts ∧ nhF (nhF s).1 = ((nhF s).1, 0) := by decide +kernel
end PathLaw
namespace PathLaw
def npE (l : List UInt8) : Int := if okP l then (if (np l).isSome then 0 else 9) else 3
def npS (l : List UInt8) : List UInt8 := if okP l then (np l).getD [] else []
end PathLaw
namespace Go.Proofs.YtjphemllikflpaaGreatDoor
open Go.Ev Go.RowKit RecLaw PathLaw
noncomputable def spIs (f : FuncId) (args : Array Value) (h : AH) : Option (Bool × Value × AH) :=
  cond (Nat.beq f 95) (match args with
    | ⟨[.string s, .string c]⟩ => some (Nat.beq c.size 1, .int .i64 (Lib.indexByte s.data.toList (hdB c)), h)
    | _ => none) none
theorem spIs_ok : SpOK spIs := by
  intro f args h v h' hs
  unfold spIs at hs
  obtain ⟨hf, hs2⟩ := cond_some hs
  clear hs
  have := Nat.eq_of_beq_eq_true hf
  subst this
  split at hs2
  · injection hs2 with hs
    injection hs with hb hs
    injection hs with hv hh
    subst hv hh
    rename_i s c
    rw [one_eq hb]
    exact ⟨flat_call (args := [.string s, .string ⟨#[hdB c]⟩]) rfl rfl fun w => (Tryz.stringslite_Index_one s (hdB c) w).mono fun e w' ⟨h1, h2⟩ => ⟨h1, h2 ▸ Below.refl _ _⟩, Nat.le_refl _⟩
  · cases hs2
noncomputable def SH0 : SC := ⟨idn, spOr spIs (spOr spIx (spOr spCn spGs)), false, false⟩
theorem SH0_ok : SH0.cfg.OK Tryz.prog := (spIs_ok.or (spIx_ok.or (spCn_ok.or spGs_ok))).cfg
theorem nhF_of : ∀ t ∈ hostT, nhF t.1 = t.2 := by decide +kernel
noncomputable def inH (s : ByteArray) : Bool := hosts.contains s.data.toList
end Go.Proofs.YtjphemllikflpaaGreatDoor
