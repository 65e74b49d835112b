/-
  Paths: ranges of bytes; units in their normal form.
-/
import Derived.Test.YtjphemllikflpaaGreatDoorByT
namespace Go.Proofs.YtjphemllikflpaaGreatDoor
open Go.Ev Go.RowKit RecLaw PathLaw

/-! isRange -/
def SB0 : SC := ⟨idn, fun _ _ _ => none, true, true⟩
theorem SB0_ok : SB0.cfg.OK Tryz.prog := none_ok.cfg
theorem irr (s : ByteArray) (lo hi n i : Int) (B : List Value → AH → Prop) (Q : AExit → List Value → AH → Prop) :
    once 0 Tryz.prog SB0 [] noHooks 600 26 [0, 1, 2, 9, 10] [] [6] [] (oneLoop (codeOf Tryz.f77) 2) [.string s, .int .u8 lo, .int .u8 hi, .int .i64 n, .int .i64 i] h0 B Q =
      bif decide (i < n) then bif decide (0 ≤ i) && decide (i < (s.size : Int)) then bif decide (((s.data.toList.getD i.toNat 0).toNat : Int) < lo) then Q .ret [.bool false] h0 else
        bif decide (0 ≤ i) && decide (i < (s.size : Int)) then bif decide (((s.data.toList.getD i.toNat 0).toNat : Int) > hi) then Q .ret [.bool false] h0 else
          B [.string s, .int .u8 lo, .int .u8 hi, .int .i64 n, .int .i64 (IntKind.i64.wrap (i + 1))] h0
      else False else False else Q (.exit 0) [anyV] h0 := by kernel_rfl
def rng (lo hi : Int) (b : UInt8) : Bool := !decide ((b.toNat : Int) < lo) && !decide ((b.toNat : Int) > hi)
theorem get_at {l : List UInt8} {i : Nat} (hi : i < l.length) : (bl l).data.toList.getD (i : Int).toNat 0 = l[i] := by
  rw [bl_list]
  show l.getD i 0 = _
  simp [List.getD, hi]
theorem ir_loop {l : List UInt8} (hl : l.length ≤ 100000) (lo hi : Int) (K : AExit → List Value → AH → Prop) :
    ∀ r i, i + r = l.length → ((l.drop i).all (rng lo hi) = true → K (.exit 0) [anyV] h0) → ((l.drop i).all (rng lo hi) = false → K .ret [.bool false] h0) → iter 0 Tryz.prog SB0 [] noHooks 600 26 [0, 1, 2, 9, 10] [] [6] [] (oneLoop (codeOf Tryz.f77) 2) (r + 1) [.string (bl l), .int .u8 lo, .int .u8 hi, .int .i64 (l.length : Int), .int .i64 (i : Int)] h0 K := by
  intro r
  induction r with
  | zero =>
    intro i h1 h2 _
    exact (irr _ _ _ _ _ _ K).mpr (pick_f (by simp; omega) (h2 (by rw [List.drop_of_length_le (by omega)]; rfl)))
  | succ r ih =>
    intro i h1 h2 h3
    have hi' : i < l.length := by omega
    have hs := bl_size l
    have hd : l.drop i = l[i] :: l.drop (i + 1) := List.drop_eq_getElem_cons hi'
    rw [hd, List.all_cons] at h2 h3
    have hin : (decide (0 ≤ (i : Int)) && decide ((i : Int) < ((bl l).size : Int))) = true := by simp; omega
    refine (irr _ _ _ _ _ _ K).mpr (pick_t (decide_eq_true (by omega)) (need_mk hin ?_))
    rw [get_at hi']
    unfold rng at h2 h3
    by_cases c1 : ((l[i].toNat : Nat) : Int) < lo
    · rw [decide_eq_true c1] at h3 ⊢
      exact h3 (by simp)
    · rw [decide_eq_false c1] at h2 h3 ⊢
      refine need_mk hin ?_
      by_cases c2 : ((l[i].toNat : Nat) : Int) > hi
      · rw [decide_eq_true c2] at h3 ⊢
        exact h3 (by simp)
      · rw [decide_eq_false c2] at h2 h3 ⊢
        rw [wrap1 (by omega)]
        exact ih (i + 1) (by omega) (fun q => h2 (by simpa [rng] using q)) (fun q => h3 (by simpa [rng] using q))
theorem oneIR : (loopAt (codeOf Tryz.f77) 2).length = 1 := by kernel_rfl
theorem someIR : Tryz.f77.body.isSome = true := by kernel_rfl
theorem irT (s : ByteArray) (lo hi : Int) (C : List Value → AH → Prop) (Q : Value → Prop) :
    tfn Tryz.prog SB0 [] (hook1 2 (hookLS 0 26 [0, 1, 2, 9, 10] [] [6] (fun vals h K => C vals h ∧ K (.exit 0) [anyV] h0))) 600 [] Tryz.f77 [.string s, .int .u8 lo, .int .u8 hi] h0 (fun v _ => Q v) =
      (C [.string s, .int .u8 lo, .int .u8 hi, .int .i64 (s.size : Int), .int .i64 0] h0 ∧ Q (.bool true)) := by kernel_rfl
theorem irF (s : ByteArray) (lo hi : Int) (C : List Value → AH → Prop) (Q : Value → Prop) :
    tfn Tryz.prog SB0 [] (hook1 2 (hookLS 0 26 [0, 1, 2, 9, 10] [] [6] (fun vals h K => C vals h ∧ K .ret [.bool false] h0))) 600 [] Tryz.f77 [.string s, .int .u8 lo, .int .u8 hi] h0 (fun v _ => Q v) =
      (C [.string s, .int .u8 lo, .int .u8 hi, .int .i64 (s.size : Int), .int .i64 0] h0 ∧ Q (.bool false)) := by kernel_rfl
theorem ir_fn {l : List UInt8} (hl : l.length ≤ 100000) (lo hi : Int) : FnOK 0 Tryz.prog 77 ⟨[.string (bl l), .int .u8 lo, .int .u8 hi]⟩ h0 (fun v _ => v = .bool (l.all (rng lo hi))) := by
  cases hc : l.all (rng lo hi) with
  | true =>
    have hsp : LSpec 0 Tryz.prog 26 (oneLoop (codeOf Tryz.f77) 2) (hookLS 0 26 [0, 1, 2, 9, 10] [] [6] (fun vals h K => (vals = [.string (bl l), .int .u8 lo, .int .u8 hi, .int .i64 (l.length : Int), .int .i64 0] ∧ h = h0) ∧ K (.exit 0) [anyV] h0)) := by
      refine hook_ok (G := []) (L := noHooks) (f := 600) (sameX := []) SB0_ok mixed (by decide) (loops_none _ _ _ _) ?_
      rintro vals h K ⟨⟨rfl, rfl⟩, hK⟩
      exact ⟨_, ir_loop hl lo hi K l.length 0 (by omega) (fun _ => hK) (fun q => by rw [List.drop_zero, hc] at q; cases q)⟩
    refine FnOK.ttree SB0_ok mixed Tryz.func77 someIR (loops_one oneIR hsp) (irT (bl l) lo hi _ (fun v => v = .bool true)) ?_
    exact ⟨⟨by rw [bl_size], rfl⟩, rfl⟩
  | false =>
    have hsp : LSpec 0 Tryz.prog 26 (oneLoop (codeOf Tryz.f77) 2) (hookLS 0 26 [0, 1, 2, 9, 10] [] [6] (fun vals h K => (vals = [.string (bl l), .int .u8 lo, .int .u8 hi, .int .i64 (l.length : Int), .int .i64 0] ∧ h = h0) ∧ K .ret [.bool false] h0)) := by
      refine hook_ok (G := []) (L := noHooks) (f := 600) (sameX := []) SB0_ok mixed (by decide) (loops_none _ _ _ _) ?_
      rintro vals h K ⟨⟨rfl, rfl⟩, hK⟩
      exact ⟨_, ir_loop hl lo hi K l.length 0 (by omega) (fun q => by rw [List.drop_zero, hc] at q; cases q) (fun _ => hK)⟩
    refine FnOK.ttree SB0_ok mixed Tryz.func77 someIR (loops_one oneIR hsp) (irF (bl l) lo hi _ (fun v => v = .bool false)) ?_
    exact ⟨⟨by rw [bl_size], rfl⟩, rfl⟩
noncomputable def spIr (f : FuncId) (args : Array Value) (h : AH) : Option (Bool × Value × AH) :=
  cond (Nat.beq f 77) (match args with
    | ⟨[.string s, .int .u8 lo, .int .u8 hi]⟩ => some (Nat.ble s.data.toList.length 100000, .bool (s.data.toList.all (rng lo hi)), h)
    | _ => none) none
theorem spIr_ok : SpOK spIr := by
  intro f args h v h' hs
  unfold spIr at hs
  obtain ⟨hf, hs2⟩ := cond_some hs
  clear hs
  have := Nat.eq_of_beq_eq_true hf
  subst this
  split at hs2
  · injection hs2 with hs
    injection hs with hb hs
    injection hs with hv hh
    subst hv hh
    rename_i s lo hi
    have := ir_fn (Nat.le_of_ble_eq_true hb) lo hi
    rw [bl_self] at this
    exact ⟨FnOK.pure this rfl rfl h, Nat.le_refl _⟩
  · cases hs2

/-! PathFault -/
noncomputable def SP1 : SC := ⟨idn, spOr spIr spCa, true, true⟩
theorem SP1_ok : SP1.cfg.OK Tryz.prog := (spIr_ok.or spCa_ok).cfg
theorem somePF : Tryz.f62.body.isSome = true := by kernel_rfl
theorem pff (s : ByteArray) (Q : Value → Prop) : ffn Tryz.prog SP1 [] 600 [] Tryz.f62 [.string s] h0 (fun v _ => Q v) =
    bif decide ((s.size : Int) > 1000) then Q (.int .i64 3) else bif decide ((s.size : Int) ≥ 1) then bif decide (1 ≤ (s.size : Int)) then bif !((s.extract 0 1).toList == (⟨#[47]⟩ : ByteArray).toList) then Q (.int .i64 3) else
      bif Nat.ble s.data.toList.length 100000 then bif !s.data.toList.all (rng 33 126) then Q (.int .i64 3) else
        bif (Nat.ble s.size 100000 && true && s.data.toList.all fun b => decide (b.toNat < 128)) && true then bif Lib.containsAny s.data.toList (⟨#[63, 35]⟩ : ByteArray).data.toList then Q (.int .i64 3) else Q (.int .i64 0) else False
      else False else False else Q (.int .i64 3) := by kernel_rfl
theorem any_eq (ch : List UInt8) : ∀ l : List UInt8, Lib.containsAny l ch = l.any fun b => ch.contains b
  | [] => rfl
  | b :: l => by
    have ih := any_eq ch l
    unfold Lib.containsAny at ih ⊢
    rw [List.any_cons]
    unfold Lib.indexAny
    cases hb : ch.contains b with
    | true => simp
    | false =>
      simp only [Bool.false_or, ← ih, Bool.false_eq_true, if_false]
      have := Lib.indexAny_ge ch l
      split
      · rename_i h; rw [beq_iff_eq] at h; rw [h]
      · rename_i h; rw [beq_iff_eq] at h
        have a : decide (0 ≤ Lib.indexAny l ch + 1) = true := decide_eq_true (by omega)
        have b : decide (0 ≤ Lib.indexAny l ch) = true := decide_eq_true (by omega)
        rw [a, b]
def pfC (l : List UInt8) : Int := if okP l then 0 else 3
theorem pf_fn {l : List UInt8} (hl : l.length ≤ 20000) : FnOK 0 Tryz.prog 62 ⟨[.string (bl l)]⟩ h0 (fun v _ => v = .int .i64 (pfC l)) := by
  refine FnOK.ftree SP1_ok mixed Tryz.func62 somePF (pff (bl l) (fun v => v = .int .i64 (pfC l))) ?_
  rw [bl_list, bl_size]
  have bad : okP l = false → Value.int .i64 3 = .int .i64 (pfC l) := fun h => by unfold pfC; rw [h]; rfl
  by_cases h1 : ((l.length : Nat) : Int) > 1000
  · exact pick_t (decide_eq_true h1) (bad (by unfold okP; rw [decide_eq_false (by omega)]; rfl))
  · refine pick_f (decide_eq_false h1) ?_
    cases l with
    | nil => exact pick_f (by simp) (bad rfl)
    | cons c l =>
      refine pick_t (decide_eq_true (by simp <;> omega)) (need_mk (decide_eq_true (by simp <;> omega)) ?_)
      have hx : (bl (c :: l)).extract 0 1 = bl [c] := by rw [bl_cut _ _ _ (by simp)]; rfl
      rw [hx]
      by_cases h2 : c = 47
      · subst h2
        refine pick_f (by decide +kernel) (need_mk (Nat.ble_eq_true_of_le (by omega)) ?_)
        cases h3 : (47 :: l).all (rng 33 126) with
        | false =>
          refine pick_t rfl (bad ?_)
          cases h4 : okP (47 :: l) with
          | false => rfl
          | true =>
            have := (okP_iff.1 h4).2.2
            have hall : (47 :: l).all (rng 33 126) = true := List.all_eq_true.2 fun x hx => by
              have := this x hx
              have key := all_u8 (p := fun c => !inkB c || rng 33 126 c) (by decide +kernel) x
              simpa [this] using key
            rw [hall] at h3; cases h3
        | true =>
          have h128 : ((47 :: l).all fun b => decide (b.toNat < 128)) = true := List.all_eq_true.2 fun x hx => by
            have := List.all_eq_true.1 h3 x hx
            have key := all_u8 (p := fun c => !rng 33 126 c || decide (c.toNat < 128)) (by decide +kernel) x
            simpa [this] using key
          refine pick_f rfl (need_mk ?_ ?_)
          · rw [h128, Nat.ble_eq_true_of_le (by omega)]; rfl
          · rw [any_eq]
            have e : ((47 :: l).any fun b => (⟨#[63, 35]⟩ : ByteArray).data.toList.contains b) = !okP (47 :: l) := by
              have hk : ∀ x ∈ (47 :: l), inkB x = !((⟨#[63, 35]⟩ : ByteArray).data.toList.contains x) := fun x hx => by
                have := List.all_eq_true.1 h3 x hx
                have key := all_u8 (p := fun c => !rng 33 126 c || (inkB c == !([63, 35].contains c))) (by decide +kernel) x
                simpa [this] using key
              cases h5 : (47 :: l).any fun b => (⟨#[63, 35]⟩ : ByteArray).data.toList.contains b with
              | true =>
                obtain ⟨x, hx, hc⟩ := List.any_eq_true.1 h5
                cases h4 : okP (47 :: l) with
                | false => rfl
                | true =>
                  have := (okP_iff.1 h4).2.2 x hx
                  rw [hk x hx, hc] at this; cases this
              | false =>
                have : okP (47 :: l) = true := okP_iff.2 ⟨by omega, rfl, fun x hx => by
                  rw [hk x hx]
                  have := List.any_eq_false.1 h5 x hx
                  simpa using this⟩
                rw [this]; rfl
            rw [e]
            unfold pfC
            cases okP (47 :: l) <;> rfl
      · refine pick_t ?_ (bad ?_)
        · rw [show ((bl [c]).toList == (⟨#[47]⟩ : ByteArray).toList) = (c == 47) by
            have := all_u8 (p := fun c => ((bl [c]).toList == (⟨#[47]⟩ : ByteArray).toList) == (c == 47)) (by decide +kernel) c
            exact eq_of_beq this]
          simp [h2]
        · unfold okP
          simp [h2]
noncomputable def spPf (f : FuncId) (args : Array Value) (h : AH) : Option (Bool × Value × AH) :=
  cond (Nat.beq f 62) (match args with
    | ⟨[.string s]⟩ => some (Nat.ble s.data.toList.length 20000, .int .i64 (pfC s.data.toList), h)
    | _ => none) none
theorem spPf_ok : SpOK spPf := by
  intro f args h v h' hs
  unfold spPf at hs
  obtain ⟨hf, hs2⟩ := cond_some hs
  clear hs
  have := Nat.eq_of_beq_eq_true hf
  subst this
  split at hs2
  · injection hs2 with hs
    injection hs with hb hs
    injection hs with hv hh
    subst hv hh
    rename_i s
    have := pf_fn (Nat.le_of_ble_eq_true hb)
    rw [bl_self] at this
    exact ⟨FnOK.pure this rfl rfl h, Nat.le_refl _⟩
  · cases hs2

def nH0 : AH := ⟨1, 1, [(0, .cells ⟨[.pointer none, .slice none 0 0]⟩ 58 (0, 0))]⟩
def nH1 (cs : List Value) (k : Nat) : AH := ⟨2, 2, [(0, .cells ⟨[.pointer (some ⟨0, 0, none⟩), .slice (some ⟨1, 0, none⟩) k k]⟩ 58 (0, 0)), (1, .cells ⟨cs⟩ 5 (0, 0))]⟩
def bT (s : ByteArray) (i : Int) : Int := ((s.data.toList.getD i.toNat 0).toNat : Int)
def W8 (n : Int) : Int := IntKind.u8.wrap n
def W (n : Int) : Int := IntKind.i64.wrap n
noncomputable def apT (cs : List Value) (k n : Nat) (vs : List Value) (K : List Value → Nat → Prop) : Prop :=
  bif (k + n).ble k then False else bif (k + n).ble 9223372036854775807 && ((k + n) * 1).ble 140737488355328 then bif (0 + k * 1).ble (Array.mk cs).size && true && true then K (List.take (k * 1) (List.drop 0 (Array.mk cs).toList) ++ vs) (k + n) else False else False
/-- What was written so far. -/
def nH : List UInt8 → AH
  | [] => nH0
  | b :: l => nH1 ((b :: l).map u8V) (b :: l).length
theorem nnU (D : List UInt8) (t : TypeId) (fr : Nat × Nat) : NoNames (.cells ⟨D.map u8V⟩ t fr) := by
  intro v hv
  obtain ⟨d, _, rfl⟩ := List.mem_map.1 (show v ∈ D.map u8V from hv)
  rfl
theorem ble_no {k n : Nat} (h : k < n) : n.ble k = false := by
  cases q : n.ble k with
  | false => rfl
  | true => exact absurd (Nat.le_of_ble_eq_true q) (by omega)
theorem apT_ok {D bs : List UInt8} {n : Nat} {vs : List Value} {K : List Value → Nat → Prop} (hv : vs = bs.map u8V) (hn : n = bs.length) (hb : bs ≠ []) (hl : D.length ≤ 100000) (hl2 : bs.length ≤ 100000) (hK : K ((D ++ bs).map u8V) (D ++ bs).length) : apT (D.map u8V) D.length n vs K := by
  subst hv hn
  have hp := List.length_pos_iff.2 hb
  refine pick_f (ble_no (by omega)) (need_mk ?_ (need_mk ?_ ?_))
  · rw [Bool.and_eq_true, Nat.ble_eq, Nat.ble_eq]; omega
  · have : (0 + D.length * 1).ble (Array.mk (D.map u8V)).size = true := by
      rw [Nat.ble_eq]
      show 0 + D.length * 1 ≤ (D.map u8V).length
      rw [List.length_map]; omega
    rw [this]; rfl
  · have e : List.take (D.length * 1) (List.drop 0 (Array.mk (D.map u8V)).toList) ++ bs.map u8V = (D ++ bs).map u8V := by
      rw [List.drop_zero, Nat.mul_one, List.map_append]
      show List.take D.length (D.map u8V) ++ _ = _
      rw [List.take_of_length_le (by rw [List.length_map]; exact Nat.le_refl _)]
    rw [e]
    rw [List.length_append] at hK
    exact hK
theorem cm {c : Bool} {a b a' b' : Prop} (ha : a → a') (hb : b → b') (h : cond c a b) : cond c a' b' := by
  cases c
  · exact hb h
  · exact ha h
theorem w8_id (c : UInt8) : W8 (c.toNat : Int) = (c.toNat : Int) := by
  have := all_u8 (p := fun c => W8 (c.toNat : Int) == (c.toNat : Int)) (by decide +kernel) c
  exact eq_of_beq this
theorem w_nat {i : Nat} (k : Nat) (h : i ≤ 1000000) (hk : k ≤ 10) : W ((i : Int) + (k : Int)) = ((i + k : Nat) : Int) := by unfold W; rw [wrap_id _ (by omega) (by omega)]; rfl
theorem bT_at {pre l : List UInt8} {c : UInt8} (k : Nat) (h : l[k]? = some c) : bT (bl (pre ++ l)) ((pre.length + k : Nat) : Int) = (c.toNat : Int) := by
  unfold bT
  rw [bl_list]
  show (((pre ++ l).getD (pre.length + k) 0).toNat : Int) = _
  rw [List.getD, List.getElem?_append_right (by omega), Nat.add_sub_cancel_left, h]
  rfl
theorem u8_lt (c : UInt8) : decide ((c.toNat : Int) < 256) = true := decide_eq_true (by have := c.toNat_lt; omega)
theorem u8_byte : ∀ r : List UInt8, (r.map u8V).all isByte = true
  | [] => rfl
  | b :: l => by
    have ih := u8_byte l
    rw [List.map_cons, List.all_cons, ih, Bool.and_true]
    show (decide (0 ≤ (b.toNat : Int)) && decide ((b.toNat : Int) < 256)) = true
    have := b.toNat_lt
    simp; omega
theorem u8_back (r : List UInt8) : (r.map u8V).map toByte = r := by
  rw [List.map_map]
  have : toByte ∘ u8V = id := by
    funext b
    show UInt8.ofNat ((b.toNat : Int)).toNat = b
    rw [Int.toNat_natCast, UInt8.ofNat_toNat]
  rw [this, List.map_id]
/-- What a Builder hands out. -/
theorem bd_ok {r : List UInt8} (hr : r ≠ []) (hl : r.length ≤ 100000000) {Q : Value → Prop} {f : ByteArray → Value} (hQ : Q (f (bl r))) :
    bif Nat.ble 1 r.length then bif decide (0 < (r.length : Int)) && decide ((r.length : Int) ≤ 9223372036854775807) && true && true && true && (0 + (r.length : Int).toNat).ble (Array.mk (r.map u8V)).size && (List.take (r.length : Int).toNat (List.drop 0 (Array.mk (r.map u8V)).toList)).all isByte then
      Q (f ⟨⟨List.map toByte (List.take (r.length : Int).toNat (List.drop 0 (Array.mk (r.map u8V)).toList))⟩⟩) else False else False := by
  have hp := List.length_pos_iff.2 hr
  have hlen : (r.map u8V).length = r.length := List.length_map _
  have htk : List.take (r.length : Int).toNat (List.drop 0 (Array.mk (r.map u8V)).toList) = r.map u8V := by
    rw [Int.toNat_natCast, List.drop_zero]
    show List.take r.length (r.map u8V) = _
    rw [List.take_of_length_le (by rw [hlen]; exact Nat.le_refl _)]
  rw [htk, u8_byte, u8_back]
  refine need_mk (Nat.ble_eq_true_of_le (by omega)) (need_mk ?_ hQ)
  have hb : (0 + (r.length : Int).toNat).ble (Array.mk (r.map u8V)).size = true := by
    rw [Nat.ble_eq, Int.toNat_natCast, Nat.zero_add]
    show r.length ≤ (r.map u8V).length
    rw [hlen]; exact Nat.le_refl _
  rw [hb]
  simp only [Bool.and_true, Bool.and_eq_true, decide_eq_true_eq]
  omega
noncomputable def wr0 (s : ByteArray) (K : List Value → Nat → Prop) : Prop :=
  bif Nat.ble (0 + s.size) 0 then False else bif Nat.ble (0 + s.size) 9223372036854775807 && Nat.ble ((0 + s.size) * 1) 140737488355328 then K (s.data.toList.map u8V) s.size else False
noncomputable def wrT (cs : List Value) (k : Nat) (s : ByteArray) (K : List Value → Nat → Prop) : Prop :=
  bif Nat.ble (k + s.size) k then False else bif Nat.ble (k + s.size) 9223372036854775807 && Nat.ble ((k + s.size) * 1) 140737488355328 then
    bif Nat.ble (0 + k * 1) (Array.mk cs).size && true && (s.data.toList.map u8V).all oneCell then K (List.take (k * 1) (List.drop 0 (Array.mk cs).toList) ++ s.data.toList.map u8V) (k + s.size) else False else False
theorem oneB (l : List UInt8) : (l.map u8V).all oneCell = true := by
  rw [List.all_eq_true]
  intro v hv
  obtain ⟨b, _, rfl⟩ := List.mem_map.1 hv
  rfl
theorem byteB (l : List UInt8) : (l.map u8V).all isByte = true := by
  rw [List.all_eq_true]
  intro v hv
  obtain ⟨b, _, rfl⟩ := List.mem_map.1 hv
  unfold u8V isByte
  have := b.toNat_lt
  simp
  omega
theorem toB (l : List UInt8) : (l.map u8V).map toByte = l := by
  rw [List.map_map]
  have : toByte ∘ u8V = id := by
    funext b
    show UInt8.ofNat ((b.toNat : Int).toNat) = b
    simp
  rw [this, List.map_id]
theorem wr0_ok {l : List UInt8} {K : List Value → Nat → Prop} (h0 : l ≠ []) (h1 : l.length ≤ 50000) (hK : K (l.map u8V) l.length) : wr0 (bl l) K := by
  unfold wr0
  have hp : 0 < l.length := List.length_pos_iff.2 h0
  rw [bl_size, bl_list]
  refine pick_f ?_ (need_mk ?_ hK)
  · rw [Bool.eq_false_iff, ne_eq, Nat.ble_eq]; omega
  · rw [Bool.and_eq_true, Nat.ble_eq, Nat.ble_eq]; omega
theorem wrT_ok {b l : List UInt8} {K : List Value → Nat → Prop} (h0 : l ≠ []) (h1 : l.length ≤ 50000) (h2 : b.length ≤ 50000) (hK : K ((b ++ l).map u8V) (b ++ l).length) : wrT (b.map u8V) b.length (bl l) K := by
  unfold wrT
  have hp : 0 < l.length := List.length_pos_iff.2 h0
  rw [bl_size, bl_list]
  refine pick_f ?_ (need_mk ?_ (need_mk ?_ ?_))
  · rw [Bool.eq_false_iff, ne_eq, Nat.ble_eq]; omega
  · rw [Bool.and_eq_true, Nat.ble_eq, Nat.ble_eq]; omega
  · rw [oneB]
    have : (0 + b.length * 1).ble (Array.mk (b.map u8V)).size = true := by
      rw [Nat.ble_eq]
      show 0 + b.length * 1 ≤ (b.map u8V).length
      rw [List.length_map]; omega
    rw [this]; rfl
  · have e : List.take (b.length * 1) (List.drop 0 (Array.mk (b.map u8V)).toList) = b.map u8V := by
      rw [List.drop_zero, Nat.mul_one]
      exact List.take_of_length_le (by show (b.map u8V).length ≤ _; rw [List.length_map]; exact Nat.le_refl _)
    rw [e, ← List.map_append, ← List.length_append]
    exact hK
theorem bl_beq (w : List UInt8) (x : ByteArray) : ((bl w).toList == x.toList) = (w == x.data.toList) := by
  rw [Lib.toList_data, Lib.toList_data, bl_list]
end Go.Proofs.YtjphemllikflpaaGreatDoor
