/-
  Paths: normalUnits, PathFault; the rounds of NormalPath.
-/
import Derived.Test.YtnaeehnkabojdaaGreatDoorQuB
namespace Go.Proofs.YtnaeehnkabojdaaGreatDoor
open Go.Ev Go.RowKit RecLaw PathLaw

/-! normalUnits -/
theorem oneNU : (loopAt (codeOf Tryz.f83) 3).length = 1 := by kernel_rfl
theorem someNU : Tryz.f83.body.isSome = true := by kernel_rfl
theorem nuf0 (s : ByteArray) (C : List Value → AH → Prop) (Q : Value → Prop) : tfn Tryz.prog SN1 [] (hook1 3 (hookLS 0 38 [0, 4, 5] [1] [2, 3, 4] (fun vals h K => C vals h ∧ K (.exit 0) [anyV, anyV, .pointer (some ⟨0, 0, none⟩)] nH0))) 600 [] Tryz.f83 [.string s] h0 (fun v _ => Q v) =
    (C [.string s, .pointer (some ⟨0, 0, none⟩), .int .i64 0] nH0 ∧ Q (.tuple ⟨[.string ⟨#[]⟩, .bool true]⟩)) := by kernel_rfl
theorem nuf1 (s : ByteArray) (cs : List Value) (k : Nat) (C : List Value → AH → Prop) (Q : Value → Prop) : tfn Tryz.prog SN1 [] (hook1 3 (hookLS 0 38 [0, 4, 5] [1] [2, 3, 4] (fun vals h K => C vals h ∧ K (.exit 0) [anyV, anyV, .pointer (some ⟨0, 0, none⟩)] (nH1 cs k)))) 600 [] Tryz.f83 [.string s] h0 (fun v _ => Q v) =
    (C [.string s, .pointer (some ⟨0, 0, none⟩), .int .i64 0] nH0 ∧ bif Nat.ble 1 k then bif decide (0 < (k : Int)) && decide ((k : Int) ≤ 9223372036854775807) && true && true && true && (0 + (k : Int).toNat).ble (Array.mk cs).size && (List.take (k : Int).toNat (List.drop 0 (Array.mk cs).toList)).all isByte then
      Q (.tuple ⟨[.string ⟨⟨List.map toByte (List.take (k : Int).toNat (List.drop 0 (Array.mk cs).toList))⟩⟩, .bool true]⟩) else False else False) := by kernel_rfl
theorem nufR (s : ByteArray) (C : List Value → AH → Prop) (Q : Value → Prop) : tfn Tryz.prog SN1 [] (hook1 3 (hookLS 0 38 [0, 4, 5] [1] [2, 3, 4] (fun vals h K => C vals h ∧ ∀ o, K .ret [.string ⟨#[]⟩, .bool false, .pointer (some ⟨0, 0, none⟩)] (nH o)))) 600 [] Tryz.f83 [.string s] h0 (fun v _ => Q v) =
    (C [.string s, .pointer (some ⟨0, 0, none⟩), .int .i64 0] nH0 ∧ ∀ _ : List UInt8, Q (.tuple ⟨[.string ⟨#[]⟩, .bool false]⟩)) := by kernel_rfl
theorem u8_byte : ∀ r : List UInt8, (r.map u8V).all isByte = true
  | [] => rfl
  | b :: l => by
    have ih := u8_byte l
    rw [List.map_cons, List.all_cons, ih, Bool.and_true]
    show (decide (0 ≤ (b.toNat : Int)) && decide ((b.toNat : Int) < 256)) = true
    have := b.toNat_lt
    simp; omega
theorem u8_back (r : List UInt8) : (r.map u8V).map toByte = r := by
  rw [List.map_map]
  have : toByte ∘ u8V = id := by
    funext b
    show UInt8.ofNat ((b.toNat : Int)).toNat = b
    rw [Int.toNat_natCast, UInt8.ofNat_toNat]
  rw [this, List.map_id]
def nuV (l : List UInt8) : Value := .tuple ⟨[.string (bl ((nu l).getD [])), .bool (nu l).isSome]⟩
theorem nu_fn {l : List UInt8} (hl : l.length ≤ 20000) : FnOK 0 Tryz.prog 83 ⟨[.string (bl l)]⟩ h0 (fun v _ => v = nuV l) := by
  have hloop := fun K => nu_loop K l.length l [] [] (Nat.le_refl _) (by simpa using hl) (Nat.le_refl _)
  simp only [List.nil_append, List.length_nil] at hloop
  have key : ∀ (cl : (AExit → List Value → AH → Prop) → Prop), (∀ K, cl K → (∀ r, nu l = some r → K (.exit 0) [anyV, anyV, .pointer (some ⟨0, 0, none⟩)] (nH r)) ∧ (nu l = none → ∀ o, K .ret [.string ⟨#[]⟩, .bool false, .pointer (some ⟨0, 0, none⟩)] (nH o))) →
      LSpec 0 Tryz.prog 38 (oneLoop (codeOf Tryz.f83) 3) (hookLS 0 38 [0, 4, 5] [1] [2, 3, 4] (fun vals h K => (vals = [.string (bl l), .pointer (some ⟨0, 0, none⟩), .int .i64 0] ∧ h = nH0) ∧ cl K)) := by
    intro cl hcl
    refine hook_ok (G := []) (L := noHooks) (f := 600) (sameX := [1]) SN1_ok mixed (by decide) (loops_none _ _ _ _) ?_
    rintro vals h K ⟨⟨rfl, rfl⟩, hK⟩
    obtain ⟨h1, h2⟩ := hcl K hK
    exact ⟨_, hloop K h1 h2⟩
  cases hn : nu l with
  | none =>
    refine FnOK.ttree SN1_ok mixed Tryz.func83 someNU (loops_one oneNU (key (fun K => ∀ o, K .ret [.string ⟨#[]⟩, .bool false, .pointer (some ⟨0, 0, none⟩)] (nH o)) fun K hK => ⟨fun r hr => (by rw [hn] at hr; cases hr), fun _ => hK⟩)) (nufR (bl l) _ (fun v => v = nuV l)) ?_
    exact ⟨⟨rfl, rfl⟩, fun _ => by unfold nuV; rw [hn]; rfl⟩
  | some r =>
    cases r with
    | nil =>
      refine FnOK.ttree SN1_ok mixed Tryz.func83 someNU (loops_one oneNU (key (fun K => K (.exit 0) [anyV, anyV, .pointer (some ⟨0, 0, none⟩)] nH0) fun K hK => ⟨fun r hr => (by rw [hn] at hr; cases hr; exact hK), fun hr => (by rw [hn] at hr; cases hr)⟩)) (nuf0 (bl l) _ (fun v => v = nuV l)) ?_
      exact ⟨⟨rfl, rfl⟩, by unfold nuV; rw [hn]; rfl⟩
    | cons b r =>
      refine FnOK.ttree SN1_ok mixed Tryz.func83 someNU (loops_one oneNU (key (fun K => K (.exit 0) [anyV, anyV, .pointer (some ⟨0, 0, none⟩)] (nH1 ((b :: r).map u8V) (b :: r).length)) fun K hK => ⟨fun q hq => (by rw [hn] at hq; cases hq; exact hK), fun hr => (by rw [hn] at hr; cases hr)⟩)) (nuf1 (bl l) ((b :: r).map u8V) (b :: r).length _ (fun v => v = nuV l)) ?_
      have hlen : ((b :: r).map u8V).length = (b :: r).length := List.length_map _
      have htk : List.take ((((b :: r).length : Nat) : Int)).toNat (List.drop 0 (Array.mk ((b :: r).map u8V)).toList) = (b :: r).map u8V := by
        rw [Int.toNat_natCast, List.drop_zero]
        show List.take (b :: r).length ((b :: r).map u8V) = _
        rw [List.take_of_length_le (by rw [hlen]; exact Nat.le_refl _)]
      refine ⟨⟨rfl, rfl⟩, ?_⟩
      rw [htk, u8_byte, u8_back]
      have hbig : (b :: r).length ≤ 100000000 := by
        have : ∀ (m : Nat) (l r : List UInt8), l.length ≤ m → nu l = some r → r.length ≤ 3 * m := nu_big
        have := this l.length l (b :: r) (Nat.le_refl _) hn
        omega
      refine need_mk (Nat.ble_eq_true_of_le (by simp)) (need_mk ?_ (by unfold nuV; rw [hn]; rfl))
      have hb : (0 + (((b :: r).length : Nat) : Int).toNat).ble (Array.mk ((b :: r).map u8V)).size = true := by
        rw [Nat.ble_eq, Int.toNat_natCast, Nat.zero_add]
        show (b :: r).length ≤ ((b :: r).map u8V).length
        rw [hlen]; exact Nat.le_refl _
      rw [hb]
      simp only [Bool.and_true, Bool.and_eq_true, decide_eq_true_eq]
      refine ⟨?_, ?_⟩
      · simp only [List.length_cons]; omega
      · omega
noncomputable def spNu (f : FuncId) (args : Array Value) (h : AH) : Option (Bool × Value × AH) :=
  cond (Nat.beq f 83) (match args with
    | ⟨[.string s]⟩ => some (Nat.ble s.data.toList.length 20000, .tuple ⟨[.string (bl ((nu s.data.toList).getD [])), .bool (nu s.data.toList).isSome]⟩, h)
    | _ => none) none
theorem spNu_ok : SpOK spNu := by
  intro f args h v h' hs
  unfold spNu at hs
  obtain ⟨hf, hs2⟩ := cond_some hs
  clear hs
  have := Nat.eq_of_beq_eq_true hf
  subst this
  split at hs2
  · injection hs2 with hs
    injection hs with hb hs
    injection hs with hv hh
    subst hv hh
    rename_i s
    have := nu_fn (Nat.le_of_ble_eq_true hb)
    rw [bl_self] at this
    exact ⟨FnOK.pure this rfl rfl h, Nat.le_refl _⟩
  · cases hs2

/-! PathFault -/
noncomputable def SP1 : SC := ⟨idn, spOr spIr spCa, true, true⟩
theorem SP1_ok : SP1.cfg.OK Tryz.prog := (spIr_ok.or spCa_ok).cfg
theorem somePF : Tryz.f56.body.isSome = true := by kernel_rfl
theorem pff (s : ByteArray) (Q : Value → Prop) : ffn Tryz.prog SP1 [] 600 [] Tryz.f56 [.string s] h0 (fun v _ => Q v) =
    bif decide ((s.size : Int) > 1000) then Q (.int .i64 3) else bif decide ((s.size : Int) ≥ 1) then bif decide (1 ≤ (s.size : Int)) then bif !((s.extract 0 1).toList == (⟨#[47]⟩ : ByteArray).toList) then Q (.int .i64 3) else
      bif Nat.ble s.data.toList.length 100000 then bif !s.data.toList.all (rng 33 126) then Q (.int .i64 3) else
        bif (Nat.ble s.size 100000 && true && s.data.toList.all fun b => decide (b.toNat < 128)) && true then bif Lib.containsAny s.data.toList (⟨#[63, 35]⟩ : ByteArray).data.toList then Q (.int .i64 3) else Q (.int .i64 0) else False
      else False else False else Q (.int .i64 3) := by kernel_rfl
theorem any_eq (ch : List UInt8) : ∀ l : List UInt8, Lib.containsAny l ch = l.any fun b => ch.contains b
  | [] => rfl
  | b :: l => by
    have ih := any_eq ch l
    unfold Lib.containsAny at ih ⊢
    rw [List.any_cons]
    unfold Lib.indexAny
    cases hb : ch.contains b with
    | true => simp
    | false =>
      simp only [Bool.false_or, ← ih, Bool.false_eq_true, if_false]
      have := Lib.indexAny_ge ch l
      split
      · rename_i h; rw [beq_iff_eq] at h; rw [h]
      · rename_i h; rw [beq_iff_eq] at h
        have a : decide (0 ≤ Lib.indexAny l ch + 1) = true := decide_eq_true (by omega)
        have b : decide (0 ≤ Lib.indexAny l ch) = true := decide_eq_true (by omega)
        rw [a, b]
def pfC (l : List UInt8) : Int := if okP l then 0 else 3
theorem pf_fn {l : List UInt8} (hl : l.length ≤ 20000) : FnOK 0 Tryz.prog 56 ⟨[.string (bl l)]⟩ h0 (fun v _ => v = .int .i64 (pfC l)) := by
  refine FnOK.ftree SP1_ok mixed Tryz.func56 somePF (pff (bl l) (fun v => v = .int .i64 (pfC l))) ?_
  rw [bl_list, bl_size]
  have bad : okP l = false → Value.int .i64 3 = .int .i64 (pfC l) := fun h => by unfold pfC; rw [h]; rfl
  by_cases h1 : ((l.length : Nat) : Int) > 1000
  · exact pick_t (decide_eq_true h1) (bad (by unfold okP; rw [decide_eq_false (by omega)]; rfl))
  · refine pick_f (decide_eq_false h1) ?_
    cases l with
    | nil => exact pick_f (by simp) (bad rfl)
    | cons c l =>
      refine pick_t (decide_eq_true (by simp <;> omega)) (need_mk (decide_eq_true (by simp <;> omega)) ?_)
      have hx : (bl (c :: l)).extract 0 1 = bl [c] := by rw [bl_cut _ _ _ (by simp)]; rfl
      rw [hx]
      by_cases h2 : c = 47
      · subst h2
        refine pick_f (by decide +kernel) (need_mk (Nat.ble_eq_true_of_le (by omega)) ?_)
        cases h3 : (47 :: l).all (rng 33 126) with
        | false =>
          refine pick_t rfl (bad ?_)
          cases h4 : okP (47 :: l) with
          | false => rfl
          | true =>
            have := (okP_iff.1 h4).2.2
            have hall : (47 :: l).all (rng 33 126) = true := List.all_eq_true.2 fun x hx => by
              have := this x hx
              have key := all_u8 (p := fun c => !inkB c || rng 33 126 c) (by decide +kernel) x
              simpa [this] using key
            rw [hall] at h3; cases h3
        | true =>
          have h128 : ((47 :: l).all fun b => decide (b.toNat < 128)) = true := List.all_eq_true.2 fun x hx => by
            have := List.all_eq_true.1 h3 x hx
            have key := all_u8 (p := fun c => !rng 33 126 c || decide (c.toNat < 128)) (by decide +kernel) x
            simpa [this] using key
          refine pick_f rfl (need_mk ?_ ?_)
          · rw [h128, Nat.ble_eq_true_of_le (by omega)]; rfl
          · rw [any_eq]
            have e : ((47 :: l).any fun b => (⟨#[63, 35]⟩ : ByteArray).data.toList.contains b) = !okP (47 :: l) := by
              have hk : ∀ x ∈ (47 :: l), inkB x = !((⟨#[63, 35]⟩ : ByteArray).data.toList.contains x) := fun x hx => by
                have := List.all_eq_true.1 h3 x hx
                have key := all_u8 (p := fun c => !rng 33 126 c || (inkB c == !([63, 35].contains c))) (by decide +kernel) x
                simpa [this] using key
              cases h5 : (47 :: l).any fun b => (⟨#[63, 35]⟩ : ByteArray).data.toList.contains b with
              | true =>
                obtain ⟨x, hx, hc⟩ := List.any_eq_true.1 h5
                cases h4 : okP (47 :: l) with
                | false => rfl
                | true =>
                  have := (okP_iff.1 h4).2.2 x hx
                  rw [hk x hx, hc] at this; cases this
              | false =>
                have : okP (47 :: l) = true := okP_iff.2 ⟨by omega, rfl, fun x hx => by
                  rw [hk x hx]
                  have := List.any_eq_false.1 h5 x hx
                  simpa using this⟩
                rw [this]; rfl
            rw [e]
            unfold pfC
            cases okP (47 :: l) <;> rfl
      · refine pick_t ?_ (bad ?_)
        · rw [show ((bl [c]).toList == (⟨#[47]⟩ : ByteArray).toList) = (c == 47) by
            have := all_u8 (p := fun c => ((bl [c]).toList == (⟨#[47]⟩ : ByteArray).toList) == (c == 47)) (by decide +kernel) c
            exact eq_of_beq this]
          simp [h2]
        · unfold okP
          simp [h2]
noncomputable def spPf (f : FuncId) (args : Array Value) (h : AH) : Option (Bool × Value × AH) :=
  cond (Nat.beq f 56) (match args with
    | ⟨[.string s]⟩ => some (Nat.ble s.data.toList.length 20000, .int .i64 (pfC s.data.toList), h)
    | _ => none) none
theorem spPf_ok : SpOK spPf := by
  intro f args h v h' hs
  unfold spPf at hs
  obtain ⟨hf, hs2⟩ := cond_some hs
  clear hs
  have := Nat.eq_of_beq_eq_true hf
  subst this
  split at hs2
  · injection hs2 with hs
    injection hs with hb hs
    injection hs with hv hh
    subst hv hh
    rename_i s
    have := pf_fn (Nat.le_of_ble_eq_true hb)
    rw [bl_self] at this
    exact ⟨FnOK.pure this rfl rfl h, Nat.le_refl _⟩
  · cases hs2

/-! NormalPath's rounds -/
noncomputable def SQ0 : SC := ⟨idn, fun _ _ _ => none, true, true⟩
theorem SQ0_ok : SQ0.cfg.OK Tryz.prog := none_ok.cfg
noncomputable def NPG : Hooks := hookOr (ghost1 15 (mark1G 6)) (ghost1 16 (cutG Tryz.prog 59 6))
def oB (cs : List Value) : AH := ⟨1, 1, [(0, .cells ⟨cs⟩ 9 (0, 0))]⟩
noncomputable def elS (vs : List Value) (i : Int) : ByteArray := toStr ((Array.mk vs).toList.getD i.toNat (Value.tuple { toList := [] }))
noncomputable def apS (cs : List Value) (k : Nat) (v : Value) (X : List Value → Nat → Prop) : Prop :=
  bif (k + 1).ble k then False else bif (k + 1).ble 9223372036854775807 && ((k + 1) * 16).ble 140737488355328 then bif (0 + k * 1).ble (Array.mk cs).size && true && true then X (List.take (k * 1) (List.drop 0 (Array.mk cs).toList) ++ [v]) (k + 1) else False else False
noncomputable def lastT (vs : List Value) (i : Int) (a b : Prop) : Prop := bif i == IntKind.i64.wrap (((Array.mk vs).size : Int) - 1) then a else b
noncomputable def dm (k : Nat) : Int := if 0 > IntKind.i64.wrap ((k : Int) - 1) then 0 else IntKind.i64.wrap ((k : Int) - 1)
noncomputable def npX (vs : List Value) (n i : Int) (B : List Value → AH → Prop) (cs : List Value) (k : Nat) : Prop := NoNames (.cells ⟨cs⟩ 9 (0, 0)) ∧ B [fz ⟨vs⟩, fz ⟨vs⟩, .int .i64 n, .int .i64 (IntKind.i64.wrap (i + 1)), .slice (some ⟨0, 0, none⟩) k k] (oB cs)
noncomputable def npY (vs : List Value) (i : Int) (cs : List Value) (k : Nat) (X : List Value → Nat → Prop) : Prop :=
  bif ((k - 0) * 1).ble cs.length && ((dm k).toNat - 0).ble (k - 0) then lastT vs i (apS (cs.take (((dm k).toNat - 0) * 1)) ((dm k).toNat - 0) (.string ⟨#[]⟩) X) (X (cs.take (((dm k).toNat - 0) * 1)) ((dm k).toNat - 0)) else False
theorem npr0 (vs : List Value) (n i : Int) (B : List Value → AH → Prop) (Q : AExit → List Value → AH → Prop) : once 0 Tryz.prog SQ0 [] NPG 600 59 [7, 25, 26, 27, 6] [0] [6] [0] (oneLoop (codeOf Tryz.f32) 10) [fz ⟨vs⟩, fz ⟨vs⟩, .int .i64 n, .int .i64 i, .slice none 0 0] h0 B Q =
    bif decide (i < n) then bif decide (0 ≤ i) && decide (i < ((Array.mk vs).size : Int)) && true then (Array.mk vs).toList.getD i.toNat (Value.tuple { toList := [] }) = .string (elS vs i) ∧
      bif (elS vs i).toList == (⟨#[46]⟩ : ByteArray).toList then lastT vs i (npX vs n i B [.string ⟨#[]⟩] 1) (B [fz ⟨vs⟩, fz ⟨vs⟩, .int .i64 n, .int .i64 (IntKind.i64.wrap (i + 1)), .slice none 0 0] h0)
      else bif (elS vs i).toList == (⟨#[46, 46]⟩ : ByteArray).toList then lastT vs i (npX vs n i B [.string ⟨#[]⟩] 1) (B [fz ⟨vs⟩, fz ⟨vs⟩, .int .i64 n, .int .i64 (IntKind.i64.wrap (i + 1)), .slice none 0 0] h0)
      else npX vs n i B [.string (elS vs i)] 1
    else False else Q (.exit 0) [.slice none 0 0] h0 := by kernel_rfl
theorem npr1 (vs : List Value) (n i : Int) (cs : List Value) (k : Nat) (B : List Value → AH → Prop) (Q : AExit → List Value → AH → Prop) : once 0 Tryz.prog SQ0 [] NPG 600 59 [7, 25, 26, 27, 6] [0] [6] [0] (oneLoop (codeOf Tryz.f32) 10) [fz ⟨vs⟩, fz ⟨vs⟩, .int .i64 n, .int .i64 i, .slice (some ⟨0, 0, none⟩) k k] (oB cs) B Q =
    bif decide (i < n) then bif decide (0 ≤ i) && decide (i < ((Array.mk vs).size : Int)) && true then (Array.mk vs).toList.getD i.toNat (Value.tuple { toList := [] }) = .string (elS vs i) ∧
      bif (elS vs i).toList == (⟨#[46]⟩ : ByteArray).toList then lastT vs i (apS cs k (.string ⟨#[]⟩) (npX vs n i B)) (npX vs n i B cs k)
      else bif (elS vs i).toList == (⟨#[46, 46]⟩ : ByteArray).toList then bif decide (0 ≤ dm k) && decide (dm k ≤ (k : Int)) then bif Nat.beq 0 k then npY vs i cs k (npX vs n i B) else npY vs i cs k (npX vs n i B) else False
      else apS cs k (.string (elS vs i)) (npX vs n i B)
    else False else NoNames (.cells ⟨cs⟩ 9 (0, 0)) ∧ Q (.exit 0) [.slice (some ⟨0, 0, none⟩) k k] (oB cs) := by kernel_rfl
end Go.Proofs.YtnaeehnkabojdaaGreatDoor
