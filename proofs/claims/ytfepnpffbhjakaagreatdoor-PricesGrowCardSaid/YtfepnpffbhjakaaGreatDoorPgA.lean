/-
  Keys and scopes that stand in catalogs: the functions 'IsKey', 'isScope', 'CheckScopes'.
-/
import Derived.Test.YtfepnpffbhjakaaGreatDoorScopes
namespace Go.Proofs.YtfepnpffbhjakaaGreatDoor
open Go.Ev Go.RowKit

/-- A closed run. -/
def arun (P : Program) (C : Cfg) (n : Nat) (fn : Func) (args : List Value) (h : AH) : Option (Value × AH) :=
  match acode P C n (codeOf fn) (frame fn args) h with
  | some (.exit _, _, _) => none
  | some (_, τ', h') => match aresultV P τ' h' fn.results.toList with
    | some v => some (v, h')
    | none => none
  | none => none
theorem arun_ok {p : Nat} {P : Program} {C : Cfg} (hC : C.OK P) (hm : P.follows .mixedOrders = true) {n : Nat} {f : FuncId} {fn : Func} {args : List Value} {h h' : AH} {v : Value} (hfn : P.funcs[f]? = some fn) (hc : fn.body.isSome = true)
    (hr : arun P C n fn args h = some (v, h')) : FnOK p P f ⟨args⟩ h (fun u g => u = v ∧ g = h') := by
  unfold arun at hr
  split at hr
  · cases hr
  · rename_i e τ' h1 hne ha
    split at hr
    · rename_i u hu
      cases hr
      refine FnOK.tri hfn hc (Tri.acode hC hm ha ?_)
      cases e with
      | exit i => exact (hne i rfl).elim
      | normal => simp [ends, hu, lift]
      | ret => simp [ends, hu, lift]
    · cases hr
  · cases hr
def isB (b : Bool) (x : Option (Value × AH)) : Bool :=
  match x with
  | some (.bool c, _) => c == b
  | _ => false
theorem isB_eq {b : Bool} {x : Option (Value × AH)} (h : isB b x = true) : ∃ h', x = some (.bool b, h') := by
  unfold isB at h
  split at h
  · rename_i c h'
    have := eq_of_beq h
    subst this
    exact ⟨h', rfl⟩
  · cases h
/-- A text as the program has it. -/
def scp (s : List UInt8) : Value := .string ⟨s.toArray⟩
theorem scp_un (s : ByteArray) : Value.string s = scp s.data.toList := by
  obtain ⟨⟨l⟩⟩ := s
  rfl
def keyL : List (List UInt8) := [[109, 97, 112, 115], [115, 104, 111, 112], [98, 105, 103], [102, 114, 101, 101], [109, 105, 100], [115, 109, 97, 108, 108]]
def scopeL : List (List UInt8) := [[97], [97, 58, 42], [97, 58, 98], [97, 58, 98, 58, 42], [97, 58, 98, 58, 99], [98], [98, 58, 42], [98, 58, 99], [42], [111, 114, 100, 101, 114, 115]]
def inKey (s : ByteArray) : Bool := keyL.any fun t => beqN (t.map UInt8.toNat) (natsOf s)
def inSc (s : ByteArray) : Bool := scopeL.any fun t => beqN (t.map UInt8.toNat) (natsOf s)
def spKy (f : FuncId) (args : Array Value) (h : AH) : Option (Bool × Value × AH) :=
  cond (Nat.beq f 48) (match args with
    | ⟨[.string s]⟩ => some (inKey s, .bool true, h)
    | _ => none) none
def spIs (f : FuncId) (args : Array Value) (h : AH) : Option (Bool × Value × AH) :=
  cond (Nat.beq f 74) (match args with
    | ⟨[.string s]⟩ => some (inSc s, .bool true, h)
    | _ => none) none
def SA1 : SC := ⟨idn, spIs, false, false⟩
theorem inKey_ok {s : ByteArray} (h : inKey s = true) : s.data.toList ∈ keyL := by
  obtain ⟨t, h1, h2⟩ := List.any_eq_true.1 h
  have h3 : t.map UInt8.toNat = s.data.toList.map UInt8.toNat := beqN_eq h2
  rw [← (List.map_inj_right (fun x y => UInt8.toNat_inj.1)).1 h3]
  exact h1
theorem inSc_ok {s : ByteArray} (h : inSc s = true) : s.data.toList ∈ scopeL := by
  obtain ⟨t, h1, h2⟩ := List.any_eq_true.1 h
  have h3 : t.map UInt8.toNat = s.data.toList.map UInt8.toNat := beqN_eq h2
  rw [← (List.map_inj_right (fun x y => UInt8.toNat_inj.1)).1 h3]
  exact h1
theorem someKY : Tryz.f48.body.isSome = true := by kernel_rfl
theorem someIS : Tryz.f74.body.isSome = true := by kernel_rfl
theorem someCK : Tryz.f49.body.isSome = true := by kernel_rfl
theorem key_runs : (keyL.all fun a => isB true (arun Tryz.prog SI.cfg 1000 Tryz.f48 [scp a] h0)) = true := by kernel_rfl
theorem scope_runs : (scopeL.all fun a => isB true (arun Tryz.prog SI.cfg 1000 Tryz.f74 [scp a] h0)) = true := by kernel_rfl
theorem key_call {a : List UInt8} (ha : a ∈ keyL) (h : AH) : CallOK Tryz.prog 48 ⟨[scp a]⟩ h (.bool true) h := by
  obtain ⟨h', hr⟩ := isB_eq (List.all_eq_true.1 key_runs a ha)
  exact FnOK.pure ((arun_ok SI_ok mixed Tryz.func48 someKY hr).mono fun _ _ q => q.1) rfl rfl h
theorem scope_call {a : List UInt8} (ha : a ∈ scopeL) (h : AH) : CallOK Tryz.prog 74 ⟨[scp a]⟩ h (.bool true) h := by
  obtain ⟨h', hr⟩ := isB_eq (List.all_eq_true.1 scope_runs a ha)
  exact FnOK.pure ((arun_ok SI_ok mixed Tryz.func74 someIS hr).mono fun _ _ q => q.1) rfl rfl h
theorem spKy_ok : SpOK spKy := by
  intro f args h v h' hs
  unfold spKy at hs
  obtain ⟨hf, hs2⟩ := cond_some hs
  clear hs
  have := Nat.eq_of_beq_eq_true hf
  subst this
  split at hs2
  · injection hs2 with hs
    injection hs with hb hs
    injection hs with hv hh
    subst hv hh
    rw [scp_un]
    exact ⟨key_call (inKey_ok hb) h, Nat.le_refl _⟩
  · cases hs2
theorem spIs_ok : SpOK spIs := by
  intro f args h v h' hs
  unfold spIs at hs
  obtain ⟨hf, hs2⟩ := cond_some hs
  clear hs
  have := Nat.eq_of_beq_eq_true hf
  subst this
  split at hs2
  · injection hs2 with hs
    injection hs with hb hs
    injection hs with hv hh
    subst hv hh
    rw [scp_un]
    exact ⟨scope_call (inSc_ok hb) h, Nat.le_refl _⟩
  · cases hs2
theorem SA1_ok : SA1.cfg.OK Tryz.prog := spIs_ok.cfg
theorem ck0 (Q : Value → Prop) : (ffn Tryz.prog SA1 [] 2000 [] Tryz.f49 [.slice none 0 0] h0 (fun v _ => Q v)) = (Q (Value.int IntKind.i64 0)) := by kernel_rfl
theorem ck1 (a : ByteArray) (Q : Value → Prop) : (ffn Tryz.prog SA1 [] 2000 [] Tryz.f49 [fz ⟨[.string a]⟩] h0 (fun v _ => Q v)) = bif inSc a then Q (Value.int IntKind.i64 0) else False := by kernel_rfl
theorem ck2 (a b : ByteArray) (Q : Value → Prop) : (ffn Tryz.prog SA1 [] 2000 [] Tryz.f49 [fz ⟨[.string a, .string b]⟩] h0 (fun v _ => Q v)) = bif inSc a then bif inSc b then Q (Value.int IntKind.i64 0) else False else False := by kernel_rfl
theorem ck3 (a b c : ByteArray) (Q : Value → Prop) : (ffn Tryz.prog SA1 [] 2000 [] Tryz.f49 [fz ⟨[.string a, .string b, .string c]⟩] h0 (fun v _ => Q v)) = bif inSc a then bif inSc b then bif inSc c then Q (Value.int IntKind.i64 0) else False else False else False := by kernel_rfl
theorem ck4 (a b c d : ByteArray) (Q : Value → Prop) : (ffn Tryz.prog SA1 [] 2000 [] Tryz.f49 [fz ⟨[.string a, .string b, .string c, .string d]⟩] h0 (fun v _ => Q v)) = bif inSc a then bif inSc b then bif inSc c then bif inSc d then Q (Value.int IntKind.i64 0) else False else False else False else False := by kernel_rfl
theorem ckE (Q : Value → Prop) : ffn Tryz.prog SA1 [] 2000 [] Tryz.f49 [fz ⟨[]⟩] h0 (fun v _ => Q v) = Q (.int .i64 0) := by kernel_rfl
def isSc : Value → Bool
  | .string s => inSc s
  | _ => false
theorem isSc_eq {v : Value} (h : isSc v = true) : ∃ s, v = .string s ∧ inSc s = true := by
  unfold isSc at h
  split at h
  · exact ⟨_, rfl, h⟩
  · cases h
/-- Scopes that are right: none, or at most four of those that are drawn. -/
def okScs : Value → Bool
  | .slice none 0 0 => true
  | .func (.yield 0) ⟨vs⟩ ⟨[]⟩ => vs.all isSc && Nat.ble vs.length 4
  | _ => false
theorem okScs_p1 {v : Value} (h : okScs v = true) : p1 v = true := by
  unfold okScs at h
  split at h
  · rfl
  · rfl
  · cases h
theorem ck_fn {v : Value} (h : okScs v = true) : FnOK 0 Tryz.prog 49 ⟨[v]⟩ h0 (fun v _ => v = .int .i64 0) := by
  unfold okScs at h
  split at h
  · exact FnOK.ftree SA1_ok mixed Tryz.func49 someCK (ck0 (fun v => v = .int .i64 0)) rfl
  · rename_i vs
    rw [Bool.and_eq_true, Nat.ble_eq] at h
    obtain ⟨h1, h2⟩ := h
    match vs, h1, h2 with
    | [], _, _ => exact FnOK.ftree SA1_ok mixed Tryz.func49 someCK (ckE (fun v => v = .int .i64 0)) rfl
    | [a], h1, _ =>
      simp only [List.all_cons, List.all_nil, Bool.and_eq_true, and_true] at h1
      obtain ⟨a, rfl, ha⟩ := isSc_eq h1
      exact FnOK.ftree SA1_ok mixed Tryz.func49 someCK (ck1 a (fun v => v = .int .i64 0)) (need_mk ha rfl)
    | [a, b], h1, _ =>
      simp only [List.all_cons, List.all_nil, Bool.and_eq_true, and_true] at h1
      obtain ⟨h1, h2⟩ := h1
      obtain ⟨a, rfl, ha⟩ := isSc_eq h1
      obtain ⟨b, rfl, hb⟩ := isSc_eq h2
      exact FnOK.ftree SA1_ok mixed Tryz.func49 someCK (ck2 a b (fun v => v = .int .i64 0)) (need_mk ha (need_mk hb rfl))
    | [a, b, c], h1, _ =>
      simp only [List.all_cons, List.all_nil, Bool.and_eq_true, and_true] at h1
      obtain ⟨h1, h2, h3⟩ := h1
      obtain ⟨a, rfl, ha⟩ := isSc_eq h1
      obtain ⟨b, rfl, hb⟩ := isSc_eq h2
      obtain ⟨c, rfl, hc⟩ := isSc_eq h3
      exact FnOK.ftree SA1_ok mixed Tryz.func49 someCK (ck3 a b c (fun v => v = .int .i64 0)) (need_mk ha (need_mk hb (need_mk hc rfl)))
    | [a, b, c, d], h1, _ =>
      simp only [List.all_cons, List.all_nil, Bool.and_eq_true, and_true] at h1
      obtain ⟨h1, h2, h3, h4⟩ := h1
      obtain ⟨a, rfl, ha⟩ := isSc_eq h1
      obtain ⟨b, rfl, hb⟩ := isSc_eq h2
      obtain ⟨c, rfl, hc⟩ := isSc_eq h3
      obtain ⟨d, rfl, hd⟩ := isSc_eq h4
      exact FnOK.ftree SA1_ok mixed Tryz.func49 someCK (ck4 a b c d (fun v => v = .int .i64 0)) (need_mk ha (need_mk hb (need_mk hc (need_mk hd rfl))))
    | _ :: _ :: _ :: _ :: _ :: _, _, h2 => simp only [List.length_cons] at h2; omega
  · cases h
def spCk (f : FuncId) (args : Array Value) (h : AH) : Option (Bool × Value × AH) :=
  cond (Nat.beq f 49) (match args with
    | ⟨[v]⟩ => some (okScs v, .int .i64 0, h)
    | _ => none) none
theorem p1_p2 {v : Value} (h : p1 v = true) : p2 v = true := by
  cases v <;> first | exact h | cases h
theorem spCk_ok : SpOK spCk := by
  intro f args h v h' hs
  unfold spCk at hs
  obtain ⟨hf, hs2⟩ := cond_some hs
  clear hs
  have := Nat.eq_of_beq_eq_true hf
  subst this
  split at hs2
  · injection hs2 with hs
    injection hs with hb hs
    injection hs with hv hh
    subst hv hh
    refine ⟨FnOK.pure (ck_fn hb) ?_ rfl h, Nat.le_refl _⟩
    show (p2 _ && true) = true
    rw [p1_p2 (okScs_p1 hb)]; rfl
  · cases hs2
end Go.Proofs.YtfepnpffbhjakaaGreatDoor
