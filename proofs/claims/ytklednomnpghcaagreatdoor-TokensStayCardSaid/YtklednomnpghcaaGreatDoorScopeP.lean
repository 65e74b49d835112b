/-
  'CheckClaims' as a specification, and what it needs.
-/
import Derived.Test.YtklednomnpghcaaGreatDoorScopeO
import Derived.Test.YtklednomnpghcaaGreatDoorEqual
namespace Go.Proofs.YtklednomnpghcaaGreatDoor
open Go.Ev Go.RowKit ScopeLaw

def keyL : List (List UInt8) := [[116, 48], [116, 49], [116, 50], [116, 51], [116, 55], [116, 56], [116, 57], [97, 110, 110], [98, 111, 98], [98, 111, 116], [103, 97, 116, 101], [111, 116, 104, 101, 114], [109, 97, 112, 115], [115, 104, 111, 112]]
def inKey (s : ByteArray) : Bool := keyL.any fun t => beqN (t.map UInt8.toNat) (natsOf s)
def spKy (f : FuncId) (args : Array Value) (h : AH) : Option (Bool × Value × AH) :=
  cond (Nat.beq f 39) (match args with
    | ⟨[.string s]⟩ => some (inKey s, .bool true, h)
    | _ => none) none
/-- The lists of those whom claims are for. -/
def audL : List (List Value) := [[scp [115, 104, 111, 112]], [scp [109, 97, 112, 115], scp [115, 104, 111, 112]], [scp [109, 97, 112, 115]]]
open Classical in
noncomputable def audB (A : List Value) : Bool := decide (A ∈ audL)
noncomputable def spRf (f : FuncId) (args : Array Value) (h : AH) : Option (Bool × Value × AH) :=
  cond (Nat.beq f 80) (match args with
    | ⟨[.func (.yield 0) ⟨A⟩ ⟨[]⟩]⟩ => some (audB A, .int .i64 0, h)
    | _ => none) none
noncomputable def spCl (f : FuncId) (args : Array Value) (h : AH) : Option (Bool × Value × AH) :=
  cond (Nat.beq f 41) (match args with
    | ⟨[.func (.yield 0) ⟨A⟩ ⟨[]⟩]⟩ => some (audB A, fz ⟨A⟩, h)
    | _ => none) none
def spLe2 (f : FuncId) (args : Array Value) (h : AH) : Option (Bool × Value × AH) :=
  cond (Nat.beq f 33) (match args with
    | ⟨[.func (.yield 0) ⟨vs⟩ ⟨[]⟩]⟩ => some (nineR vs && Nat.ble 1 vs.length, fz ⟨leastV vs⟩, h)
    | ⟨[.slice none 0 _]⟩ => some (true, .slice none 0 0, h)
    | _ => none) none
noncomputable def SP1 : SC := ⟨idn, spOr spKy (spOr spRf (spOr (spNrm spCk) (spOr spLe2 (spNrm spEq)))), true, true⟩
theorem inKey_ok {s : ByteArray} (h : inKey s = true) : s.data.toList ∈ keyL := by
  obtain ⟨t, h1, h2⟩ := List.any_eq_true.1 h
  have h3 : t.map UInt8.toNat = s.data.toList.map UInt8.toNat := beqN_eq h2
  rw [← (List.map_inj_right (fun x y => UInt8.toNat_inj.1)).1 h3]
  exact h1
theorem someKY : Tryz.f39.body.isSome = true := by kernel_rfl
theorem someRF : Tryz.f80.body.isSome = true := by kernel_rfl
theorem someCN : Tryz.f41.body.isSome = true := by kernel_rfl
theorem someCC : Tryz.f38.body.isSome = true := by kernel_rfl
theorem key_runs : (keyL.all fun a => isB true (arun Tryz.prog SI.cfg 1000 Tryz.f39 [scp a] h0)) = true := by kernel_rfl
theorem key_call {a : List UInt8} (ha : a ∈ keyL) (h : AH) : CallOK Tryz.prog 39 ⟨[scp a]⟩ h (.bool true) h := by
  obtain ⟨h', hr⟩ := isB_eq (List.all_eq_true.1 key_runs a ha)
  exact FnOK.pure ((arun_ok SI_ok mixed Tryz.func39 someKY hr).mono fun _ _ q => q.1) rfl rfl h
theorem spKy_ok : SpOK spKy := by
  intro f args h v h' hs
  unfold spKy at hs
  obtain ⟨hf, hs2⟩ := cond_some hs
  clear hs
  have := Nat.eq_of_beq_eq_true hf
  subst this
  split at hs2
  · injection hs2 with hs
    injection hs with hb hs
    injection hs with hv hh
    subst hv hh
    rw [scp_un]
    exact ⟨key_call (inKey_ok hb) h, Nat.le_refl _⟩
  · cases hs2
open Classical in
theorem audB_iff {A : List Value} : audB A = true ↔ A ∈ audL := by unfold audB; exact decide_eq_true_iff
theorem aud_len {A : List Value} (h : audB A = true) : A.length ≤ 2 := by
  have := audB_iff.1 h
  simp only [audL, List.mem_cons, List.not_mem_nil, or_false] at this
  rcases this with rfl | rfl | rfl <;> simp
theorem aud_str {A : List Value} (h : audB A = true) : A.all isStr = true := by
  have := audB_iff.1 h
  simp only [audL, List.mem_cons, List.not_mem_nil, or_false] at this
  rcases this with rfl | rfl | rfl <;> rfl
def SPn : SC := ⟨idn, fun _ _ _ => none, false, false⟩
theorem SPn_ok : SPn.cfg.OK Tryz.prog := none_ok.cfg
theorem rf0 (Q : Value → Prop) : ffn Tryz.prog SPn [] 1000 [] Tryz.f80 [fz ⟨[scp [115, 104, 111, 112]]⟩] h0 (fun v _ => Q v) = Q (.int .i64 0) := by kernel_rfl
theorem cl0 (Q : Value → Option Obj → Prop) : ffn Tryz.prog SPn [] 1000 [] Tryz.f41 [fz ⟨[scp [115, 104, 111, 112]]⟩] h0 (fun v h => Q v (h.get (blkOf v))) = Q (.slice (some ⟨1, 0, none⟩) 1 1) (some (.cells ⟨[scp [115, 104, 111, 112]]⟩ 9 (0, 0))) := by kernel_rfl
theorem rf1 (Q : Value → Prop) : ffn Tryz.prog SPn [] 1000 [] Tryz.f80 [fz ⟨[scp [109, 97, 112, 115], scp [115, 104, 111, 112]]⟩] h0 (fun v _ => Q v) = Q (.int .i64 0) := by kernel_rfl
theorem cl1 (Q : Value → Option Obj → Prop) : ffn Tryz.prog SPn [] 1000 [] Tryz.f41 [fz ⟨[scp [109, 97, 112, 115], scp [115, 104, 111, 112]]⟩] h0 (fun v h => Q v (h.get (blkOf v))) = Q (.slice (some ⟨1, 0, none⟩) 2 2) (some (.cells ⟨[scp [109, 97, 112, 115], scp [115, 104, 111, 112]]⟩ 9 (0, 0))) := by kernel_rfl
theorem rf2 (Q : Value → Prop) : ffn Tryz.prog SPn [] 1000 [] Tryz.f80 [fz ⟨[scp [109, 97, 112, 115]]⟩] h0 (fun v _ => Q v) = Q (.int .i64 0) := by kernel_rfl
theorem cl2 (Q : Value → Option Obj → Prop) : ffn Tryz.prog SPn [] 1000 [] Tryz.f41 [fz ⟨[scp [109, 97, 112, 115]]⟩] h0 (fun v h => Q v (h.get (blkOf v))) = Q (.slice (some ⟨1, 0, none⟩) 1 1) (some (.cells ⟨[scp [109, 97, 112, 115]]⟩ 9 (0, 0))) := by kernel_rfl
theorem rf_fn {A : List Value} (h : audB A = true) : FnOK 0 Tryz.prog 80 ⟨[fz ⟨A⟩]⟩ h0 (fun v _ => v = .int .i64 0) := by
  have := audB_iff.1 h
  simp only [audL, List.mem_cons, List.not_mem_nil, or_false] at this
  rcases this with rfl | rfl | rfl
  · exact FnOK.ftree SPn_ok mixed Tryz.func80 someRF (rf0 (fun v => v = .int .i64 0)) rfl
  · exact FnOK.ftree SPn_ok mixed Tryz.func80 someRF (rf1 (fun v => v = .int .i64 0)) rfl
  · exact FnOK.ftree SPn_ok mixed Tryz.func80 someRF (rf2 (fun v => v = .int .i64 0)) rfl
theorem cl_fn {A : List Value} (h : audB A = true) : FnOK 0 Tryz.prog 41 ⟨[fz ⟨A⟩]⟩ h0 (fun v _ => v = fz ⟨A⟩) := by
  have := audB_iff.1 h
  simp only [audL, List.mem_cons, List.not_mem_nil, or_false] at this
  rcases this with rfl | rfl | rfl
  · refine FnOK.weak1 ((FnOK.ftree (p := 0) SPn_ok mixed Tryz.func41 someCN (cl0 (fun v o => v = .slice (some ⟨1, 0, none⟩) 1 1 ∧ o = some (.cells ⟨[scp [115, 104, 111, 112]]⟩ 9 (0, 0)))) ⟨rfl, rfl⟩).mono ?_)
    rintro v g ⟨rfl, hb⟩
    exact ⟨_, _, freezeL [[115, 104, 111, 112]] [[115, 104, 111, 112]] rfl (Nat.le_refl _) ⟨[], rfl⟩ hb, rfl⟩
  · refine FnOK.weak1 ((FnOK.ftree (p := 0) SPn_ok mixed Tryz.func41 someCN (cl1 (fun v o => v = .slice (some ⟨1, 0, none⟩) 2 2 ∧ o = some (.cells ⟨[scp [109, 97, 112, 115], scp [115, 104, 111, 112]]⟩ 9 (0, 0)))) ⟨rfl, rfl⟩).mono ?_)
    rintro v g ⟨rfl, hb⟩
    exact ⟨_, _, freezeL [[109, 97, 112, 115], [115, 104, 111, 112]] [[109, 97, 112, 115], [115, 104, 111, 112]] rfl (Nat.le_refl _) ⟨[], rfl⟩ hb, rfl⟩
  · refine FnOK.weak1 ((FnOK.ftree (p := 0) SPn_ok mixed Tryz.func41 someCN (cl2 (fun v o => v = .slice (some ⟨1, 0, none⟩) 1 1 ∧ o = some (.cells ⟨[scp [109, 97, 112, 115]]⟩ 9 (0, 0)))) ⟨rfl, rfl⟩).mono ?_)
    rintro v g ⟨rfl, hb⟩
    exact ⟨_, _, freezeL [[109, 97, 112, 115]] [[109, 97, 112, 115]] rfl (Nat.le_refl _) ⟨[], rfl⟩ hb, rfl⟩
theorem spRf_ok : SpOK spRf := by
  intro f args h v h' hs
  unfold spRf at hs
  obtain ⟨hf, hs2⟩ := cond_some hs
  clear hs
  have := Nat.eq_of_beq_eq_true hf
  subst this
  split at hs2
  · injection hs2 with hs
    injection hs with hb hs
    injection hs with hv hh
    subst hv hh
    exact ⟨FnOK.pure (rf_fn hb) rfl rfl h, Nat.le_refl _⟩
  · cases hs2
theorem spCl_ok : SpOK spCl := by
  intro f args h v h' hs
  unfold spCl at hs
  obtain ⟨hf, hs2⟩ := cond_some hs
  clear hs
  have := Nat.eq_of_beq_eq_true hf
  subst this
  split at hs2
  · injection hs2 with hs
    injection hs with hb hs
    injection hs with hv hh
    subst hv hh
    exact ⟨FnOK.pure (cl_fn hb) rfl rfl h, Nat.le_refl _⟩
  · cases hs2
theorem le_nil2 (c : Nat) : FnOK 0 Tryz.prog 33 ⟨[.slice none 0 c]⟩ h0 (fun v _ => v = .slice none 0 0) :=
  FnOK.ftree (p := 0) SR_ok mixed Tryz.func33 some33 (R := []) (n := 3000) (G := []) (args := [.slice none 0 c]) (h := h0) (Q := fun v _ => v = .slice none 0 0) (T := Value.slice none 0 0 = Value.slice none 0 0) (by kernel_rfl) rfl
theorem spLe2_ok : SpOK spLe2 := by
  intro f args h v h' hs
  unfold spLe2 at hs
  obtain ⟨hf, hs2⟩ := cond_some hs
  clear hs
  have := Nat.eq_of_beq_eq_true hf
  subst this
  split at hs2
  · injection hs2 with hs
    injection hs with hb hs
    injection hs with hv hh
    subst hv hh
    rw [Bool.and_eq_true, Nat.ble_eq] at hb
    exact ⟨FnOK.pure (le_fn hb.1 hb.2) rfl rfl h, Nat.le_refl _⟩
  · injection hs2 with hs
    injection hs with hb hs
    injection hs with hv hh
    subst hv hh
    exact ⟨FnOK.pure (le_nil2 _) rfl rfl h, Nat.le_refl _⟩
  · cases hs2
theorem SP1_ok : SP1.cfg.OK Tryz.prog := (spKy_ok.or (spRf_ok.or (spCk_ok.nrm.or (spLe2_ok.or spEq_ok.nrm)))).cfg
theorem ccNN (id sub iss par : ByteArray) (A S : List Value) (fr to : Int) (Q : Value → Prop) : (ffn Tryz.prog SP1 [] 2000 [] Tryz.f38 [.agg ⟨[.string id, .string sub, .string iss, .string par, .slice none 0 0, .slice none 0 0, .int .i64 fr, .int .i64 to]⟩] h0 (fun v _ => Q v)) = bif inKey id then bif inKey sub then bif inKey iss then bif !par.toList == (ByteArray.mk #[]).toList then bif inKey par then bif decide (fr < 0) then Q (Value.int IntKind.i64 1) else bif decide (fr ≥ to) then Q (Value.int IntKind.i64 1) else bif decide (to > 345686400000) then Q (Value.int IntKind.i64 1) else Q (Value.int IntKind.i64 0) else False else bif decide (fr < 0) then Q (Value.int IntKind.i64 1) else bif decide (fr ≥ to) then Q (Value.int IntKind.i64 1) else bif decide (to > 345686400000) then Q (Value.int IntKind.i64 1) else Q (Value.int IntKind.i64 0) else False else False else False := by kernel_rfl
theorem ccNS (id sub iss par : ByteArray) (A S : List Value) (fr to : Int) (Q : Value → Prop) : (ffn Tryz.prog SP1 [] 2000 [] Tryz.f38 [.agg ⟨[.string id, .string sub, .string iss, .string par, .slice none 0 0, fz ⟨S⟩, .int .i64 fr, .int .i64 to]⟩] h0 (fun v _ => Q v)) = bif inKey id then bif inKey sub then bif inKey iss then bif !par.toList == (ByteArray.mk #[]).toList then bif inKey par then bif tenR S then bif nineR S && Nat.ble 1 S.length then bif S.all isStr && (leastV S).all isStr && S.length.ble 4000 then bif !eqS S (leastV S) then Q (Value.int IntKind.i64 7) else bif decide (fr < 0) then Q (Value.int IntKind.i64 1) else bif decide (fr ≥ to) then Q (Value.int IntKind.i64 1) else bif decide (to > 345686400000) then Q (Value.int IntKind.i64 1) else Q (Value.int IntKind.i64 0) else False else False else False else False else bif tenR S then bif nineR S && Nat.ble 1 S.length then bif S.all isStr && (leastV S).all isStr && S.length.ble 4000 then bif !eqS S (leastV S) then Q (Value.int IntKind.i64 7) else bif decide (fr < 0) then Q (Value.int IntKind.i64 1) else bif decide (fr ≥ to) then Q (Value.int IntKind.i64 1) else bif decide (to > 345686400000) then Q (Value.int IntKind.i64 1) else Q (Value.int IntKind.i64 0) else False else False else False else False else False else False := by kernel_rfl
theorem ccAN (id sub iss par : ByteArray) (A S : List Value) (fr to : Int) (Q : Value → Prop) : (ffn Tryz.prog SP1 [] 2000 [] Tryz.f38 [.agg ⟨[.string id, .string sub, .string iss, .string par, fz ⟨A⟩, .slice none 0 0, .int .i64 fr, .int .i64 to]⟩] h0 (fun v _ => Q v)) = bif inKey id then bif inKey sub then bif inKey iss then bif !par.toList == (ByteArray.mk #[]).toList then bif inKey par then bif decide (((Array.mk A).size : Int) > 50) then Q (Value.int IntKind.i64 2) else bif audB A then bif decide (fr < 0) then Q (Value.int IntKind.i64 1) else bif decide (fr ≥ to) then Q (Value.int IntKind.i64 1) else bif decide (to > 345686400000) then Q (Value.int IntKind.i64 1) else Q (Value.int IntKind.i64 0) else False else False else bif decide (((Array.mk A).size : Int) > 50) then Q (Value.int IntKind.i64 2) else bif audB A then bif decide (fr < 0) then Q (Value.int IntKind.i64 1) else bif decide (fr ≥ to) then Q (Value.int IntKind.i64 1) else bif decide (to > 345686400000) then Q (Value.int IntKind.i64 1) else Q (Value.int IntKind.i64 0) else False else False else False else False := by kernel_rfl
theorem ccAS (id sub iss par : ByteArray) (A S : List Value) (fr to : Int) (Q : Value → Prop) : (ffn Tryz.prog SP1 [] 2000 [] Tryz.f38 [.agg ⟨[.string id, .string sub, .string iss, .string par, fz ⟨A⟩, fz ⟨S⟩, .int .i64 fr, .int .i64 to]⟩] h0 (fun v _ => Q v)) = bif inKey id then bif inKey sub then bif inKey iss then bif !par.toList == (ByteArray.mk #[]).toList then bif inKey par then bif decide (((Array.mk A).size : Int) > 50) then Q (Value.int IntKind.i64 2) else bif audB A then bif tenR S then bif nineR S && Nat.ble 1 S.length then bif S.all isStr && (leastV S).all isStr && S.length.ble 4000 then bif !eqS S (leastV S) then Q (Value.int IntKind.i64 7) else bif decide (fr < 0) then Q (Value.int IntKind.i64 1) else bif decide (fr ≥ to) then Q (Value.int IntKind.i64 1) else bif decide (to > 345686400000) then Q (Value.int IntKind.i64 1) else Q (Value.int IntKind.i64 0) else False else False else False else False else False else bif decide (((Array.mk A).size : Int) > 50) then Q (Value.int IntKind.i64 2) else bif audB A then bif tenR S then bif nineR S && Nat.ble 1 S.length then bif S.all isStr && (leastV S).all isStr && S.length.ble 4000 then bif !eqS S (leastV S) then Q (Value.int IntKind.i64 7) else bif decide (fr < 0) then Q (Value.int IntKind.i64 1) else bif decide (fr ≥ to) then Q (Value.int IntKind.i64 1) else bif decide (to > 345686400000) then Q (Value.int IntKind.i64 1) else Q (Value.int IntKind.i64 0) else False else False else False else False else False else False else False := by kernel_rfl

def ccE (fr to : Int) : Int := if fr < 0 then 1 else if fr ≥ to then 1 else if to > 345686400000 then 1 else 0
theorem ccE_mk {fr to : Int} {Q : Value → Prop} (hQ : Q (.int .i64 (ccE fr to))) : cond (decide (fr < 0)) (Q (.int .i64 1)) (cond (decide (fr ≥ to)) (Q (.int .i64 1)) (cond (decide (to > 345686400000)) (Q (.int .i64 1)) (Q (.int .i64 0)))) := by
  unfold ccE at hQ
  by_cases h1 : fr < 0
  · rw [if_pos h1] at hQ; exact pick_t (decide_eq_true h1) hQ
  · rw [if_neg h1] at hQ
    refine pick_f (decide_eq_false h1) ?_
    by_cases h2 : fr ≥ to
    · rw [if_pos h2] at hQ; exact pick_t (decide_eq_true h2) hQ
    · rw [if_neg h2] at hQ
      refine pick_f (decide_eq_false h2) ?_
      by_cases h3 : to > 345686400000
      · rw [if_pos h3] at hQ; exact pick_t (decide_eq_true h3) hQ
      · rw [if_neg h3] at hQ; exact pick_f (decide_eq_false h3) hQ
def okPar (par : ByteArray) : Bool := (par.toList == (ByteArray.mk #[]).toList) || inKey par
/-- Scopes as they stand in claims. -/
def Lst (S : List Value) : Prop := fourR S = true ∧ 1 ≤ S.length ∧ leastV S = S
open Classical in
noncomputable def lstB (S : List Value) : Bool := decide (Lst S)
open Classical in
theorem lstB_iff {S : List Value} : lstB S = true ↔ Lst S := by unfold lstB; exact decide_eq_true_iff
noncomputable def okAud : Value → Bool
  | .slice none 0 0 => true
  | .func (.yield 0) ⟨A⟩ ⟨[]⟩ => audB A
  | _ => false
noncomputable def okSc : Value → Bool
  | .slice none 0 0 => true
  | .func (.yield 0) ⟨S⟩ ⟨[]⟩ => lstB S
  | _ => false
theorem par_mk {par : ByteArray} (h : okPar par = true) {X : Prop} (hX : X) : cond (!par.toList == (ByteArray.mk #[]).toList) (cond (inKey par) X False) X := by
  unfold okPar at h
  cases hp : (par.toList == (ByteArray.mk #[]).toList) with
  | true => exact hX
  | false =>
    rw [hp, Bool.false_or] at h
    exact need_mk h hX
theorem aud_mk {A : List Value} (h : audB A = true) {X Y : Prop} (hX : X) : cond (decide (((Array.mk A).size : Int) > 50)) Y (cond (audB A) X False) := by
  have := aud_len h
  refine pick_f (decide_eq_false (by show ¬ ((A.length : Int) > 50); omega)) (need_mk h hX)
theorem sc_mk {S : List Value} (h : lstB S = true) {X Y : Prop} (hX : X) : cond (tenR S) (cond (nineR S && Nat.ble 1 S.length) (cond (S.all isStr && (leastV S).all isStr && S.length.ble 4000) (cond (!eqS S (leastV S)) Y X) False) False) False := by
  obtain ⟨h1, h2, h3⟩ := lstB_iff.1 h
  obtain ⟨n1, n2⟩ := fourR_nine h1
  have hs := (nineR_ok n1).2.2.2
  refine need_mk (nineR_ten n1) (need_mk (by rw [n1, Nat.ble_eq_true_of_le h2]; rfl) (need_mk ?_ (pick_f ?_ hX)))
  · rw [h3, hs, Nat.ble_eq_true_of_le (by omega)]; rfl
  · rw [h3, eqS_self]; rfl
theorem cc_fn {id sub iss par : ByteArray} {aud sc : Value} {fr to : Int} (h1 : inKey id = true) (h2 : inKey sub = true) (h3 : inKey iss = true) (h4 : okPar par = true) (h5 : okAud aud = true) (h6 : okSc sc = true) :
    FnOK 0 Tryz.prog 38 ⟨[.agg ⟨[.string id, .string sub, .string iss, .string par, aud, sc, .int .i64 fr, .int .i64 to]⟩]⟩ h0 (fun v _ => v = .int .i64 (ccE fr to)) := by
  unfold okAud at h5
  unfold okSc at h6
  split at h5
  · split at h6
    · exact FnOK.ftree SP1_ok mixed Tryz.func38 someCC (ccNN id sub iss par [] [] fr to (fun v => v = .int .i64 (ccE fr to))) (need_mk h1 (need_mk h2 (need_mk h3 (par_mk h4 (ccE_mk (Q := fun v => v = .int .i64 (ccE fr to)) rfl)))))
    · exact FnOK.ftree SP1_ok mixed Tryz.func38 someCC (ccNS id sub iss par [] _ fr to (fun v => v = .int .i64 (ccE fr to))) (need_mk h1 (need_mk h2 (need_mk h3 (par_mk h4 (sc_mk h6 (ccE_mk (Q := fun v => v = .int .i64 (ccE fr to)) rfl))))))
    · cases h6
  · split at h6
    · exact FnOK.ftree SP1_ok mixed Tryz.func38 someCC (ccAN id sub iss par _ [] fr to (fun v => v = .int .i64 (ccE fr to))) (need_mk h1 (need_mk h2 (need_mk h3 (par_mk h4 (aud_mk h5 (ccE_mk (Q := fun v => v = .int .i64 (ccE fr to)) rfl))))))
    · exact FnOK.ftree SP1_ok mixed Tryz.func38 someCC (ccAS id sub iss par _ _ fr to (fun v => v = .int .i64 (ccE fr to))) (need_mk h1 (need_mk h2 (need_mk h3 (par_mk h4 (aud_mk h5 (sc_mk h6 (ccE_mk (Q := fun v => v = .int .i64 (ccE fr to)) rfl)))))))
    · cases h6
  · cases h5
noncomputable def spCC (f : FuncId) (args : Array Value) (h : AH) : Option (Bool × Value × AH) :=
  cond (Nat.beq f 38) (match args with
    | ⟨[.agg ⟨[.string id, .string sub, .string iss, .string par, aud, sc, .int .i64 fr, .int .i64 to]⟩]⟩ => some (inKey id && inKey sub && inKey iss && okPar par && okAud aud && okSc sc, .int .i64 (ccE fr to), h)
    | _ => none) none
theorem okAud_p1 {v : Value} (h : okAud v = true) : p1 v = true := by
  unfold okAud at h
  split at h
  · rfl
  · rfl
  · cases h
theorem okSc_p1 {v : Value} (h : okSc v = true) : p1 v = true := by
  unfold okSc at h
  split at h
  · rfl
  · rfl
  · cases h
theorem spCC_ok : SpOK spCC := by
  intro f args h v h' hs
  unfold spCC at hs
  obtain ⟨hf, hs2⟩ := cond_some hs
  clear hs
  have := Nat.eq_of_beq_eq_true hf
  subst this
  split at hs2
  · injection hs2 with hs
    injection hs with hb hs
    injection hs with hv hh
    subst hv hh
    simp only [Bool.and_eq_true] at hb
    obtain ⟨⟨⟨⟨⟨b1, b2⟩, b3⟩, b4⟩, b5⟩, b6⟩ := hb
    refine ⟨FnOK.pure (cc_fn b1 b2 b3 b4 b5 b6) ?_ rfl h, Nat.le_refl _⟩
    have e1 := okAud_p1 b5
    have e2 := okSc_p1 b6
    show (List.all [_, _, _, _, _, _, _, _] p1 && true) = true
    simp only [List.all_cons, e1, e2]
    rfl
  · cases hs2
end Go.Proofs.YtklednomnpghcaaGreatDoor
