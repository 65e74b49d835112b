/-
  Bytes: ends of lines, lengths.
-/
import Derived.Test.YtjphemllikflpaaGreatDoorByF
namespace Go.Proofs.YtjphemllikflpaaGreatDoor
open Go.Ev Go.RowKit RecLaw PathLaw QueryLaw BytesLaw

theorem maxLen_cell {w : World} (h : TabsIn Tryz.prog w) : ∃ m, w.cell? ⟨0, 0, none⟩ = some (.int .i64 m) := by
  obtain ⟨m, t, fr, hb⟩ := h.2 0 ⟨"internal/bytealg.MaxLen", by simp [itabs], by kernel_rfl⟩
  exact ⟨m, by simp [World.cell?, hb]⟩
noncomputable def spIg (f : FuncId) (args : Array Value) (h : AH) : Option (Bool × Value × AH) :=
  cond (Nat.beq f 95) (match args with
    | ⟨[.string s, .string c]⟩ => some (Nat.ble s.size 1000000 && Nat.ble c.size 10, .int .i64 (Lib.index s.data.toList c.data.toList), h)
    | _ => none) none
theorem spIg_ok : SpOK spIg := by
  intro f args h v h' hs
  unfold spIg at hs
  obtain ⟨hf, hs2⟩ := cond_some hs
  clear hs
  have := Nat.eq_of_beq_eq_true hf
  subst this
  split at hs2
  · injection hs2 with hs
    injection hs with hb hs
    injection hs with hv hh
    subst hv hh
    rename_i s c
    rw [Bool.and_eq_true] at hb
    have b1 := Nat.le_of_ble_eq_true hb.1
    refine ⟨flat_callT (args := [.string s, .string c]) rfl rfl fun w hT => ?_, Nat.le_refl _⟩
    obtain ⟨m, hm⟩ := maxLen_cell hT
    exact (Tryz.stringslite_Index s c m w (by omega) hm).mono fun e w' ⟨h1, h2⟩ => ⟨h1, h2 ▸ Below.refl _ _⟩
  · cases hs2

/-! Trim with a set of bytes; TrailingZeros -/
def asciiS (c : ByteArray) : Bool := c.data.toList.all fun b => decide (b.toNat < 128)
theorem ascii_all {c : ByteArray} (h : asciiS c = true) : ∀ (j : Nat) (b : UInt8), c.data.toList[j]? = some b → b.toNat < 128 :=
  fun _ b hb => of_decide_eq_true (List.all_eq_true.1 h b (List.mem_of_getElem? hb))
noncomputable def spTs (f : FuncId) (args : Array Value) (h : AH) : Option (Bool × Value × AH) :=
  cond (Nat.beq f 57) (match args with
    | ⟨[.string s, .string c]⟩ => some (Nat.ble s.size 1000000 && Nat.ble c.size 100 && asciiS c, .string (bl (Lib.trimS s.data.toList c.data.toList)), h)
    | _ => none) none
theorem spTs_ok : SpOK spTs := by
  intro f args h v h' hs
  unfold spTs at hs
  obtain ⟨hf, hs2⟩ := cond_some hs
  clear hs
  have := Nat.eq_of_beq_eq_true hf
  subst this
  split at hs2
  · injection hs2 with hs
    injection hs with hb hs
    injection hs with hv hh
    subst hv hh
    rename_i s c
    simp only [Bool.and_eq_true] at hb
    obtain ⟨⟨b1, b2⟩, b3⟩ := hb
    have b1 := Nat.le_of_ble_eq_true b1
    have b2 := Nat.le_of_ble_eq_true b2
    exact ⟨flat_call (args := [.string s, .string c]) rfl rfl fun w => Tryz.strings_Trim_laid s c w (by omega) (by omega) (ascii_all b3), Nat.le_refl _⟩
  · cases hs2
theorem tz_tab {w : World} (h : TabsIn Tryz.prog w) : TabAt 8 Lib.deBruijn64tab w := by
  obtain ⟨t, fr, hb⟩ := h.1 8 ⟨bruijn.map fun z => Value.int .u8 z⟩ ⟨"math/bits.deBruijn64tab", by simp [tabs], by kernel_rfl⟩
  intro j hj
  have e : bruijn = Lib.deBruijn64tab.map fun (n : Nat) => (n : Int) := by decide
  rw [e] at hb
  simp [World.cell?, hb, hj]
noncomputable def spTz (f : FuncId) (args : Array Value) (h : AH) : Option (Bool × Value × AH) :=
  cond (Nat.beq f 132) (match args with
    | ⟨[.int .u64 n]⟩ => some (decide (n = 16), .int .i64 4, h)
    | _ => none) none
theorem spTz_ok : SpOK spTz := by
  intro f args h v h' hs
  unfold spTz at hs
  obtain ⟨hf, hs2⟩ := cond_some hs
  clear hs
  have := Nat.eq_of_beq_eq_true hf
  subst this
  split at hs2
  · injection hs2 with hs
    injection hs with hb hs
    injection hs with hv hh
    subst hv hh
    rename_i n
    have hn := of_decide_eq_true hb
    subst hn
    refine ⟨flat_callT (args := [.int .u64 16]) rfl rfl fun w hT => ?_, Nat.le_refl _⟩
    exact (Tryz.bits_TrailingZeros 16 (by decide) w fun _ => tz_tab hT).mono fun e w' ⟨h1, h2⟩ => ⟨h1, h2 ▸ Below.refl _ _⟩
  · cases hs2

/-! lengths -/
def isSN (b : ByteArray) (x : Option (Value × AH)) : Bool :=
  match x with
  | some (.string c, _) => c.data.toList == b.data.toList
  | _ => false
theorem isSN_eq {b : ByteArray} {x : Option (Value × AH)} (h : isSN b x = true) : ∃ h', x = some (.string b, h') := by
  unfold isSN at h
  split at h
  · rename_i c h'
    have := eq_of_beq h
    rw [← bl_self c, ← bl_self b, this]
    exact ⟨h', rfl⟩
  · cases h
def isIB (n : Int) (x : Option (Value × AH)) : Bool :=
  match x with
  | some (.tuple ⟨[.int .i64 c, .bool true]⟩, _) => c == n
  | _ => false
theorem isIB_eq {n : Int} {x : Option (Value × AH)} (h : isIB n x = true) : ∃ h', x = some (.tuple ⟨[.int .i64 n, .bool true]⟩, h') := by
  unfold isIB at h
  split at h
  · rename_i c h'
    have := eq_of_beq h
    subst this
    exact ⟨h', rfl⟩
  · cases h
noncomputable def SFi : SC := ⟨idn, spTz, false, false⟩
theorem SFi_ok : SFi.cfg.OK Tryz.prog := spTz_ok.cfg
theorem someFI : Tryz.f26.body.isSome = true := by kernel_rfl
theorem fi_runs : ((List.range 30).all fun n => isSN (bl (hexN (n + 1))) (arun Tryz.prog SFi.cfg 3000 Tryz.f26 [.int .i64 ((n + 1 : Nat) : Int), .int .i64 16] h0)) = true := by kernel_rfl
theorem fi_fn {n : Nat} (h0' : 1 ≤ n) (h1 : n ≤ 30) : FnOK 0 Tryz.prog 26 ⟨[.int .i64 (n : Int), .int .i64 16]⟩ h0 (fun u _ => u = .string (bl (hexN n))) := by
  obtain ⟨k, rfl⟩ : ∃ k, n = k + 1 := ⟨n - 1, by omega⟩
  have := List.all_eq_true.1 fi_runs k (List.mem_range.2 (by omega))
  obtain ⟨h', hr⟩ := isSN_eq this
  exact (arun_ok SFi_ok mixed Tryz.func26 someFI hr).mono fun _ _ q => q.1
noncomputable def spFi (f : FuncId) (args : Array Value) (h : AH) : Option (Bool × Value × AH) :=
  cond (Nat.beq f 26) (match args with
    | ⟨[.int .i64 n, .int .i64 b]⟩ => some (decide (1 ≤ n) && decide (n ≤ 30) && decide (b = 16), .string (bl (hexN n.toNat)), h)
    | _ => none) none
theorem spFi_ok : SpOK spFi := by
  intro f args h v h' hs
  unfold spFi at hs
  obtain ⟨hf, hs2⟩ := cond_some hs
  clear hs
  have := Nat.eq_of_beq_eq_true hf
  subst this
  split at hs2
  · injection hs2 with hs
    injection hs with hb hs
    injection hs with hv hh
    subst hv hh
    rename_i n b
    simp only [Bool.and_eq_true, decide_eq_true_eq] at hb
    obtain ⟨⟨b1, b2⟩, rfl⟩ := hb
    have e : n = ((n.toNat : Nat) : Int) := (Int.toNat_of_nonneg (by omega)).symm
    have := fi_fn (n := n.toNat) (by omega) (by omega)
    rw [← e] at this
    exact ⟨FnOK.pure this rfl rfl h, Nat.le_refl _⟩
  · cases hs2
/-- The lengths of chunks as they are written. -/
def lenL : List (Bs × Nat) := ([48], 0) :: (List.range 30).map fun n => (hexN (n + 1), n + 1)
def lenF (s : Bs) : Nat := match lenL.find? (fun t => t.1 == s) with
  | some t => t.2
  | none => 0
theorem lenF_of : ∀ t ∈ lenL, lenF t.1 = t.2 := by decide +kernel
noncomputable def SCl : SC := ⟨idn, spTs, false, false⟩
theorem SCl_ok : SCl.cfg.OK Tryz.prog := spTs_ok.cfg
theorem someCL : Tryz.f28.body.isSome = true := by kernel_rfl
noncomputable def runCl (t : Bs × Nat) : Bool := isIB (t.2 : Int) (arun Tryz.prog SCl.cfg 3000 Tryz.f28 [.string (bl t.1)] h0)
theorem clr0 : runCl ([48], 0) = true := by kernel_rfl
theorem clr1 : runCl ([49], 1) = true := by kernel_rfl
theorem clr2 : runCl ([50], 2) = true := by kernel_rfl
theorem clr3 : runCl ([51], 3) = true := by kernel_rfl
theorem clr4 : runCl ([52], 4) = true := by kernel_rfl
theorem clr5 : runCl ([53], 5) = true := by kernel_rfl
theorem clr6 : runCl ([54], 6) = true := by kernel_rfl
theorem clr7 : runCl ([55], 7) = true := by kernel_rfl
theorem clr8 : runCl ([56], 8) = true := by kernel_rfl
theorem clr9 : runCl ([57], 9) = true := by kernel_rfl
theorem clr10 : runCl ([97], 10) = true := by kernel_rfl
theorem clr11 : runCl ([98], 11) = true := by kernel_rfl
theorem clr12 : runCl ([99], 12) = true := by kernel_rfl
theorem clr13 : runCl ([100], 13) = true := by kernel_rfl
theorem clr14 : runCl ([101], 14) = true := by kernel_rfl
theorem clr15 : runCl ([102], 15) = true := by kernel_rfl
theorem clr16 : runCl ([49, 48], 16) = true := by kernel_rfl
theorem clr17 : runCl ([49, 49], 17) = true := by kernel_rfl
theorem clr18 : runCl ([49, 50], 18) = true := by kernel_rfl
theorem clr19 : runCl ([49, 51], 19) = true := by kernel_rfl
theorem clr20 : runCl ([49, 52], 20) = true := by kernel_rfl
theorem clr21 : runCl ([49, 53], 21) = true := by kernel_rfl
theorem clr22 : runCl ([49, 54], 22) = true := by kernel_rfl
theorem clr23 : runCl ([49, 55], 23) = true := by kernel_rfl
theorem clr24 : runCl ([49, 56], 24) = true := by kernel_rfl
theorem clr25 : runCl ([49, 57], 25) = true := by kernel_rfl
theorem clr26 : runCl ([49, 97], 26) = true := by kernel_rfl
theorem clr27 : runCl ([49, 98], 27) = true := by kernel_rfl
theorem clr28 : runCl ([49, 99], 28) = true := by kernel_rfl
theorem clr29 : runCl ([49, 100], 29) = true := by kernel_rfl
theorem clr30 : runCl ([49, 101], 30) = true := by kernel_rfl
theorem cl_runs : ∀ t ∈ lenL, runCl t = true := by
  intro t ht
  have e : lenL = [([48], 0), ([49], 1), ([50], 2), ([51], 3), ([52], 4), ([53], 5), ([54], 6), ([55], 7), ([56], 8), ([57], 9), ([97], 10), ([98], 11), ([99], 12), ([100], 13), ([101], 14), ([102], 15), ([49, 48], 16), ([49, 49], 17), ([49, 50], 18), ([49, 51], 19), ([49, 52], 20), ([49, 53], 21), ([49, 54], 22), ([49, 55], 23), ([49, 56], 24), ([49, 57], 25), ([49, 97], 26), ([49, 98], 27), ([49, 99], 28), ([49, 100], 29), ([49, 101], 30)] := by decide +kernel
  rw [e] at ht
  simp only [List.mem_cons, List.not_mem_nil, or_false] at ht
  rcases ht with rfl | rfl | rfl | rfl | rfl | rfl | rfl | rfl | rfl | rfl | rfl | rfl | rfl | rfl | rfl | rfl | rfl | rfl | rfl | rfl | rfl | rfl | rfl | rfl | rfl | rfl | rfl | rfl | rfl | rfl | rfl
  · exact clr0
  · exact clr1
  · exact clr2
  · exact clr3
  · exact clr4
  · exact clr5
  · exact clr6
  · exact clr7
  · exact clr8
  · exact clr9
  · exact clr10
  · exact clr11
  · exact clr12
  · exact clr13
  · exact clr14
  · exact clr15
  · exact clr16
  · exact clr17
  · exact clr18
  · exact clr19
  · exact clr20
  · exact clr21
  · exact clr22
  · exact clr23
  · exact clr24
  · exact clr25
  · exact clr26
  · exact clr27
  · exact clr28
  · exact clr29
  · exact clr30
noncomputable def inLen (s : ByteArray) : Bool := (lenL.map (·.1)).contains s.data.toList
theorem cl_fn {t : Bs × Nat} (h : t ∈ lenL) : FnOK 0 Tryz.prog 28 ⟨[.string (bl t.1)]⟩ h0 (fun u _ => u = .tuple ⟨[.int .i64 (t.2 : Int), .bool true]⟩) := by
  obtain ⟨h', hr⟩ := isIB_eq (cl_runs t h)
  exact (arun_ok SCl_ok mixed Tryz.func28 someCL hr).mono fun _ _ q => q.1
noncomputable def spCl (f : FuncId) (args : Array Value) (h : AH) : Option (Bool × Value × AH) :=
  cond (Nat.beq f 28) (match args with
    | ⟨[.string s]⟩ => some (inLen s, .tuple ⟨[.int .i64 (lenF s.data.toList : Int), .bool true]⟩, h)
    | _ => none) none
theorem spCl_ok : SpOK spCl := by
  intro f args h v h' hs
  unfold spCl at hs
  obtain ⟨hf, hs2⟩ := cond_some hs
  clear hs
  have := Nat.eq_of_beq_eq_true hf
  subst this
  split at hs2
  · injection hs2 with hs
    injection hs with hb hs
    injection hs with hv hh
    subst hv hh
    rename_i s
    have hw : s.data.toList ∈ lenL.map (·.1) := by simpa [inLen] using hb
    obtain ⟨t, ht, he⟩ := List.mem_map.1 hw
    have := cl_fn ht
    have e2 := lenF_of t ht
    rw [he] at e2
    rw [e2]
    rw [he, bl_self] at this
    exact ⟨FnOK.pure this rfl rfl h, Nat.le_refl _⟩
  · cases hs2
end Go.Proofs.YtjphemllikflpaaGreatDoor
