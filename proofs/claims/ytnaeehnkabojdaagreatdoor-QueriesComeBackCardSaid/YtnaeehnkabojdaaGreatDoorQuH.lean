/-
  Paths: hosts in their normal form; lists of words that are held against each other.
-/
import Derived.Test.YtnaeehnkabojdaaGreatDoorQuD
import Derived.Test.YtnaeehnkabojdaaGreatDoorQuS
namespace PathLaw
/-- Hosts, their normal form, what is wrong. -/
def hostT : List (List UInt8 × List UInt8 × Int) := [
  ([97, 46, 98], [97, 46, 98], 0),
  ([65, 46, 66], [97, 46, 98], 0),
  ([115, 104, 111, 112, 46, 101, 120, 97, 109, 112, 108, 101], [115, 104, 111, 112, 46, 101, 120, 97, 109, 112, 108, 101], 0),
  ([97, 46, 98, 58, 56, 48], [97, 46, 98], 0),
  ([97, 46, 98, 58, 52, 52, 51], [97, 46, 98], 0),
  ([97, 46, 98, 58, 56, 48, 56, 48], [97, 46, 98, 58, 56, 48, 56, 48], 0),
  ([120, 45, 49, 46, 121], [120, 45, 49, 46, 121], 0),
  ([49, 46, 50, 46, 51, 46, 52], [49, 46, 50, 46, 51, 46, 52], 0),
  ([99, 46, 100, 58, 56, 48, 56, 48], [99, 46, 100, 58, 56, 48, 56, 48], 0),
  ([], [], 3),
  ([97, 46, 46, 98], [], 3),
  ([45, 97, 46, 98], [], 3),
  ([97, 46, 98, 58, 48], [], 3),
  ([97, 46, 98, 58, 48, 56], [], 3),
  ([97, 46, 98, 58, 54, 53, 53, 51, 54], [], 3),
  ([97, 95, 98], [], 3),
  ([97, 46, 98, 58], [], 3),
  ([97, 32, 98], [], 3),
  ([97, 97, 97, 97, 97, 97, 97, 97, 97, 97, 97, 97, 97, 97, 97, 97, 97, 97, 97, 97, 97, 97, 97, 97, 97, 97, 97, 97, 97, 97, 97, 97, 97, 97, 97, 97, 97, 97, 97, 97, 97, 97, 97, 97, 97, 97, 97, 97, 97, 97, 97, 97, 97, 97, 97, 97, 97, 97, 97, 97, 97, 97, 97, 97], [], 3)]
def nhF (s : List UInt8) : List UInt8 × Int := match hostT.find? (fun t => t.1 == s) with
  | some t => t.2
  | none => ([], 3)
def hosts : List (List UInt8) := hostT.map (·.1)
theorem host_ok : ∀ s ∈ hosts, (nhF s).2 = 0 → (nhF s).1 ∈ hosts ∧ nhF (nhF s).1 = ((nhF s).1, 0) := by decide +kernel
end PathLaw
namespace Go.Proofs.YtnaeehnkabojdaaGreatDoor
open Go.Ev Go.RowKit RecLaw PathLaw

/-- ToLower at the one host that has upper letters. -/
noncomputable def spTl (f : FuncId) (args : Array Value) (h : AH) : Option (Bool × Value × AH) :=
  cond (Nat.beq f 19) (match args with
    | ⟨[.string s]⟩ => cond (s.data.toList == [65, 46, 66]) (some (true, .string ⟨#[97, 46, 98]⟩, h)) none
    | _ => none) none
theorem spTl_ok : SpOK spTl := by
  intro f args h v h' hs
  unfold spTl at hs
  obtain ⟨hf, hs2⟩ := cond_some hs
  clear hs
  have := Nat.eq_of_beq_eq_true hf
  subst this
  split at hs2
  · rename_i s
    obtain ⟨hq, hs3⟩ := cond_some hs2
    injection hs3 with hs
    injection hs with hb hs
    injection hs with hv hh
    subst hv hh
    have e : s = bl [65, 46, 66] := by rw [← bl_self s, eq_of_beq hq]
    subst e
    refine ⟨flat_call (args := [.string (bl [65, 46, 66])]) rfl rfl fun w => ?_, Nat.le_refl _⟩
    exact Tryz.strings_ToLower_ascii (bl [65, 46, 66]) w (by decide) (fun j b hj => by
      have := List.mem_of_getElem? hj
      rw [bl_list] at this
      simp only [List.mem_cons, List.not_mem_nil, or_false] at this
      rcases this with rfl | rfl | rfl <;> decide)
  · cases hs2
noncomputable def SH0 : SC := ⟨idn, spOr spTl (spOr spIx (spOr spCn spGs)), false, false⟩
theorem SH0_ok : SH0.cfg.OK Tryz.prog := (spTl_ok.or (spIx_ok.or (spCn_ok.or spGs_ok))).cfg
def isH (b : ByteArray) (e : Int) (x : Option (Value × AH)) : Bool :=
  match x with
  | some (.tuple ⟨[.string c, .int .i64 f]⟩, _) => c.data.toList == b.data.toList && f == e
  | _ => false
theorem isH_eq {b : ByteArray} {e : Int} {x : Option (Value × AH)} (h : isH b e x = true) : ∃ h', x = some (.tuple ⟨[.string b, .int .i64 e]⟩, h') := by
  unfold isH at h
  split at h
  · rename_i c f h'
    rw [Bool.and_eq_true] at h
    have h1 := eq_of_beq h.1
    have h2 := eq_of_beq h.2
    rw [← bl_self c, ← bl_self b, h1, h2]
    exact ⟨h', rfl⟩
  · cases h
theorem someNH : Tryz.f31.body.isSome = true := by kernel_rfl
noncomputable def runH (t : List UInt8 × List UInt8 × Int) : Bool := isH (bl t.2.1) t.2.2 (arun Tryz.prog SH0.cfg 3000 Tryz.f31 [.string (bl t.1)] h0)
theorem nr0 : runH ([97, 46, 98], [97, 46, 98], 0) = true := by kernel_rfl
theorem nr1 : runH ([65, 46, 66], [97, 46, 98], 0) = true := by kernel_rfl
theorem nr2 : runH ([115, 104, 111, 112, 46, 101, 120, 97, 109, 112, 108, 101], [115, 104, 111, 112, 46, 101, 120, 97, 109, 112, 108, 101], 0) = true := by kernel_rfl
theorem nr3 : runH ([97, 46, 98, 58, 56, 48], [97, 46, 98], 0) = true := by kernel_rfl
theorem nr4 : runH ([97, 46, 98, 58, 52, 52, 51], [97, 46, 98], 0) = true := by kernel_rfl
theorem nr5 : runH ([97, 46, 98, 58, 56, 48, 56, 48], [97, 46, 98, 58, 56, 48, 56, 48], 0) = true := by kernel_rfl
theorem nr6 : runH ([120, 45, 49, 46, 121], [120, 45, 49, 46, 121], 0) = true := by kernel_rfl
theorem nr7 : runH ([49, 46, 50, 46, 51, 46, 52], [49, 46, 50, 46, 51, 46, 52], 0) = true := by kernel_rfl
theorem nr8 : runH ([99, 46, 100, 58, 56, 48, 56, 48], [99, 46, 100, 58, 56, 48, 56, 48], 0) = true := by kernel_rfl
theorem nr9 : runH ([], [], 3) = true := by kernel_rfl
theorem nr10 : runH ([97, 46, 46, 98], [], 3) = true := by kernel_rfl
theorem nr11 : runH ([45, 97, 46, 98], [], 3) = true := by kernel_rfl
theorem nr12 : runH ([97, 46, 98, 58, 48], [], 3) = true := by kernel_rfl
theorem nr13 : runH ([97, 46, 98, 58, 48, 56], [], 3) = true := by kernel_rfl
theorem nr14 : runH ([97, 46, 98, 58, 54, 53, 53, 51, 54], [], 3) = true := by kernel_rfl
theorem nr15 : runH ([97, 95, 98], [], 3) = true := by kernel_rfl
theorem nr16 : runH ([97, 46, 98, 58], [], 3) = true := by kernel_rfl
theorem nr17 : runH ([97, 32, 98], [], 3) = true := by kernel_rfl
theorem nr18 : runH ([97, 97, 97, 97, 97, 97, 97, 97, 97, 97, 97, 97, 97, 97, 97, 97, 97, 97, 97, 97, 97, 97, 97, 97, 97, 97, 97, 97, 97, 97, 97, 97, 97, 97, 97, 97, 97, 97, 97, 97, 97, 97, 97, 97, 97, 97, 97, 97, 97, 97, 97, 97, 97, 97, 97, 97, 97, 97, 97, 97, 97, 97, 97, 97], [], 3) = true := by kernel_rfl
theorem nh_runs : ∀ t ∈ hostT, runH t = true := by
  intro t ht
  simp only [hostT, List.mem_cons, List.not_mem_nil, or_false] at ht
  rcases ht with rfl | rfl | rfl | rfl | rfl | rfl | rfl | rfl | rfl | rfl | rfl | rfl | rfl | rfl | rfl | rfl | rfl | rfl | rfl
  · exact nr0
  · exact nr1
  · exact nr2
  · exact nr3
  · exact nr4
  · exact nr5
  · exact nr6
  · exact nr7
  · exact nr8
  · exact nr9
  · exact nr10
  · exact nr11
  · exact nr12
  · exact nr13
  · exact nr14
  · exact nr15
  · exact nr16
  · exact nr17
  · exact nr18
theorem nhF_of : ∀ t ∈ hostT, nhF t.1 = t.2 := by decide +kernel
theorem nh_fn {s : List UInt8} (hs : s ∈ hosts) : FnOK 0 Tryz.prog 31 ⟨[.string (bl s)]⟩ h0 (fun u _ => u = .tuple ⟨[.string (bl (nhF s).1), .int .i64 (nhF s).2]⟩) := by
  obtain ⟨t, ht, rfl⟩ := List.mem_map.1 hs
  obtain ⟨h', hr⟩ := isH_eq (nh_runs t ht)
  rw [nhF_of t ht]
  exact (arun_ok SH0_ok mixed Tryz.func31 someNH hr).mono fun _ _ q => q.1
noncomputable def inH (s : ByteArray) : Bool := hosts.contains s.data.toList
noncomputable def nhS (s : ByteArray) : ByteArray := bl (nhF s.data.toList).1
noncomputable def nhE (s : ByteArray) : Int := (nhF s.data.toList).2
noncomputable def spNh (f : FuncId) (args : Array Value) (h : AH) : Option (Bool × Value × AH) :=
  cond (Nat.beq f 31) (match args with
    | ⟨[.string s]⟩ => some (inH s, .tuple ⟨[.string (nhS s), .int .i64 (nhE s)]⟩, h)
    | _ => none) none
theorem spNh_ok : SpOK spNh := by
  intro f args h v h' hs
  unfold spNh at hs
  obtain ⟨hf, hs2⟩ := cond_some hs
  clear hs
  have := Nat.eq_of_beq_eq_true hf
  subst this
  split at hs2
  · injection hs2 with hs
    injection hs with hb hs
    injection hs with hv hh
    subst hv hh
    rename_i s
    have hw : s.data.toList ∈ hosts := by simpa [inH] using hb
    have := nh_fn hw
    rw [bl_self] at this
    exact ⟨FnOK.pure this rfl rfl h, Nat.le_refl _⟩
  · cases hs2

end Go.Proofs.YtnaeehnkabojdaaGreatDoor
