/-
  Paths: what is told of single bytes, by closed runs.
-/
import Derived.Test.YtnaeehnkabojdaaGreatDoorQuA
namespace Go.Proofs.YtnaeehnkabojdaaGreatDoor
open Go.Ev Go.RowKit RecLaw PathLaw

/-- A closed run. -/
def arun (P : Program) (C : Cfg) (n : Nat) (fn : Func) (args : List Value) (h : AH) : Option (Value × AH) :=
  match acode P C n (codeOf fn) (frame fn args) h with
  | some (.exit _, _, _) => none
  | some (_, τ', h') => match aresultV P τ' h' fn.results.toList with
    | some v => some (v, h')
    | none => none
  | none => none
theorem arun_ok {p : Nat} {P : Program} {C : Cfg} (hC : C.OK P) (hm : P.follows .mixedOrders = true) {n : Nat} {f : FuncId} {fn : Func} {args : List Value} {h h' : AH} {v : Value} (hfn : P.funcs[f]? = some fn) (hc : fn.body.isSome = true)
    (hr : arun P C n fn args h = some (v, h')) : FnOK p P f ⟨args⟩ h (fun u g => u = v ∧ g = h') := by
  unfold arun at hr
  split at hr
  · cases hr
  · rename_i e τ' h1 hne ha
    split at hr
    · rename_i u hu
      cases hr
      refine FnOK.tri hfn hc (Tri.acode hC hm ha ?_)
      cases e with
      | exit i => exact (hne i rfl).elim
      | normal => simp [ends, hu, lift]
      | ret => simp [ends, hu, lift]
    · cases hr
  · cases hr
def isBo (b : Bool) (x : Option (Value × AH)) : Bool :=
  match x with
  | some (.bool c, _) => c == b
  | _ => false
theorem isBo_eq {b : Bool} {x : Option (Value × AH)} (h : isBo b x = true) : ∃ h', x = some (.bool b, h') := by
  unfold isBo at h
  split at h
  · rename_i c h'
    have := eq_of_beq h
    subst this
    exact ⟨h', rfl⟩
  · cases h
def isS (b : ByteArray) (x : Option (Value × AH)) : Bool :=
  match x with
  | some (.string c, _) => c.data.toList == b.data.toList
  | _ => false
theorem isS_eq {b : ByteArray} {x : Option (Value × AH)} (h : isS b x = true) : ∃ h', x = some (.string b, h') := by
  unfold isS at h
  split at h
  · rename_i c h'
    have := eq_of_beq h
    rw [← bl_self c, ← bl_self b, this]
    exact ⟨h', rfl⟩
  · cases h
def isU (b : Int) (x : Option (Value × AH)) : Bool :=
  match x with
  | some (.tuple ⟨[.int .u64 c, .nilIface]⟩, _) => c == b
  | _ => false
theorem isU_eq {b : Int} {x : Option (Value × AH)} (h : isU b x = true) : ∃ h', x = some (.tuple ⟨[.int .u64 b, .nilIface]⟩, h') := by
  unfold isU at h
  split at h
  · rename_i c h'
    have := eq_of_beq h
    subst this
    exact ⟨h', rfl⟩
  · cases h
def ST0 : SC := ⟨idn, fun _ _ _ => none, false, false⟩
theorem ST0_ok : ST0.cfg.OK Tryz.prog := none_ok.cfg
theorem someIF : Tryz.f75.body.isSome = true := by kernel_rfl
theorem someIH : Tryz.f141.body.isSome = true := by kernel_rfl
theorem somePC : Tryz.f76.body.isSome = true := by kernel_rfl
theorem somePU : Tryz.f142.body.isSome = true := by kernel_rfl
def u8V (c : UInt8) : Value := .int .u8 (c.toNat : Int)
theorem if_runs : ((List.range 256).all fun n => isBo (freeB (UInt8.ofNat n)) (arun Tryz.prog ST0.cfg 1000 Tryz.f75 [.int .u8 (n : Int)] h0)) = true := by kernel_rfl
theorem ih_runs : ((List.range 256).all fun n => isBo (isHexB (UInt8.ofNat n)) (arun Tryz.prog ST0.cfg 1000 Tryz.f141 [.int .u8 (n : Int)] h0)) = true := by kernel_rfl
theorem pc_runs : ((List.range 256).all fun n => isS (bl (pctB (UInt8.ofNat n))) (arun Tryz.prog ST0.cfg 1000 Tryz.f76 [.int .u8 (n : Int)] h0)) = true := by kernel_rfl
theorem n_u8 {n : Int} (h0 : 0 ≤ n) (h1 : n < 256) : n.toNat ∈ List.range 256 ∧ ((n.toNat : Nat) : Int) = n := ⟨List.mem_range.2 (by omega), Int.toNat_of_nonneg h0⟩
def byI (n : Int) : UInt8 := UInt8.ofNat n.toNat
theorem byI_of (c : UInt8) : byI (c.toNat : Int) = c := by
  unfold byI
  rw [Int.toNat_natCast, UInt8.ofNat_toNat]
theorem if_fn {n : Int} (h0' : 0 ≤ n) (h1 : n < 256) : FnOK 0 Tryz.prog 75 ⟨[.int .u8 n]⟩ h0 (fun u _ => u = .bool (freeB (byI n))) := by
  obtain ⟨q1, q2⟩ := n_u8 h0' h1
  have := List.all_eq_true.1 if_runs _ q1
  rw [q2] at this
  obtain ⟨h', hr⟩ := isBo_eq this
  exact (arun_ok ST0_ok mixed Tryz.func75 someIF hr).mono fun _ _ q => q.1
theorem ih_fn {n : Int} (h0' : 0 ≤ n) (h1 : n < 256) : FnOK 0 Tryz.prog 141 ⟨[.int .u8 n]⟩ h0 (fun u _ => u = .bool (isHexB (byI n))) := by
  obtain ⟨q1, q2⟩ := n_u8 h0' h1
  have := List.all_eq_true.1 ih_runs _ q1
  rw [q2] at this
  obtain ⟨h', hr⟩ := isBo_eq this
  exact (arun_ok ST0_ok mixed Tryz.func141 someIH hr).mono fun _ _ q => q.1
theorem pc_fn {n : Int} (h0' : 0 ≤ n) (h1 : n < 256) : FnOK 0 Tryz.prog 76 ⟨[.int .u8 n]⟩ h0 (fun u _ => u = .string (bl (pctB (byI n)))) := by
  obtain ⟨q1, q2⟩ := n_u8 h0' h1
  have := List.all_eq_true.1 pc_runs _ q1
  rw [q2] at this
  obtain ⟨h', hr⟩ := isS_eq this
  exact (arun_ok ST0_ok mixed Tryz.func76 somePC hr).mono fun _ _ q => q.1
noncomputable def spIf (f : FuncId) (args : Array Value) (h : AH) : Option (Bool × Value × AH) :=
  cond (Nat.beq f 75) (match args with
    | ⟨[.int .u8 n]⟩ => some (decide (0 ≤ n) && decide (n < 256), .bool (freeB (byI n)), h)
    | _ => none) none
theorem spIf_ok : SpOK spIf := by
  intro f args h v h' hs
  unfold spIf at hs
  obtain ⟨hf, hs2⟩ := cond_some hs
  clear hs
  have := Nat.eq_of_beq_eq_true hf
  subst this
  split at hs2
  · injection hs2 with hs
    injection hs with hb hs
    injection hs with hv hh
    subst hv hh
    rename_i n
    simp only [Bool.and_eq_true, decide_eq_true_eq] at hb
    exact ⟨FnOK.pure (if_fn hb.1 hb.2) rfl rfl h, Nat.le_refl _⟩
  · cases hs2
noncomputable def spIh (f : FuncId) (args : Array Value) (h : AH) : Option (Bool × Value × AH) :=
  cond (Nat.beq f 141) (match args with
    | ⟨[.int .u8 n]⟩ => some (decide (0 ≤ n) && decide (n < 256), .bool (isHexB (byI n)), h)
    | _ => none) none
theorem spIh_ok : SpOK spIh := by
  intro f args h v h' hs
  unfold spIh at hs
  obtain ⟨hf, hs2⟩ := cond_some hs
  clear hs
  have := Nat.eq_of_beq_eq_true hf
  subst this
  split at hs2
  · injection hs2 with hs
    injection hs with hb hs
    injection hs with hv hh
    subst hv hh
    rename_i n
    simp only [Bool.and_eq_true, decide_eq_true_eq] at hb
    exact ⟨FnOK.pure (ih_fn hb.1 hb.2) rfl rfl h, Nat.le_refl _⟩
  · cases hs2
noncomputable def spPc (f : FuncId) (args : Array Value) (h : AH) : Option (Bool × Value × AH) :=
  cond (Nat.beq f 76) (match args with
    | ⟨[.int .u8 n]⟩ => some (decide (0 ≤ n) && decide (n < 256), .string (bl (pctB (byI n))), h)
    | _ => none) none
theorem spPc_ok : SpOK spPc := by
  intro f args h v h' hs
  unfold spPc at hs
  obtain ⟨hf, hs2⟩ := cond_some hs
  clear hs
  have := Nat.eq_of_beq_eq_true hf
  subst this
  split at hs2
  · injection hs2 with hs
    injection hs with hb hs
    injection hs with hv hh
    subst hv hh
    rename_i n
    simp only [Bool.and_eq_true, decide_eq_true_eq] at hb
    exact ⟨FnOK.pure (pc_fn hb.1 hb.2) rfl rfl h, Nat.le_refl _⟩
  · cases hs2

end Go.Proofs.YtnaeehnkabojdaaGreatDoor
