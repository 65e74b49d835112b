/-
  Paths: ranges of bytes; units in their normal form.
-/
import Derived.Test.YtnaeehnkabojdaaGreatDoorQuU
namespace Go.Proofs.YtnaeehnkabojdaaGreatDoor
open Go.Ev Go.RowKit RecLaw PathLaw

/-! isRange -/
def SB0 : SC := ⟨idn, fun _ _ _ => none, true, true⟩
theorem SB0_ok : SB0.cfg.OK Tryz.prog := none_ok.cfg
theorem irr (s : ByteArray) (lo hi n i : Int) (B : List Value → AH → Prop) (Q : AExit → List Value → AH → Prop) :
    once 0 Tryz.prog SB0 [] noHooks 600 26 [0, 1, 2, 9, 10] [] [6] [] (oneLoop (codeOf Tryz.f77) 2) [.string s, .int .u8 lo, .int .u8 hi, .int .i64 n, .int .i64 i] h0 B Q =
      bif decide (i < n) then bif decide (0 ≤ i) && decide (i < (s.size : Int)) then bif decide (((s.data.toList.getD i.toNat 0).toNat : Int) < lo) then Q .ret [.bool false] h0 else
        bif decide (0 ≤ i) && decide (i < (s.size : Int)) then bif decide (((s.data.toList.getD i.toNat 0).toNat : Int) > hi) then Q .ret [.bool false] h0 else
          B [.string s, .int .u8 lo, .int .u8 hi, .int .i64 n, .int .i64 (IntKind.i64.wrap (i + 1))] h0
      else False else False else Q (.exit 0) [anyV] h0 := by kernel_rfl
def rng (lo hi : Int) (b : UInt8) : Bool := !decide ((b.toNat : Int) < lo) && !decide ((b.toNat : Int) > hi)
theorem get_at {l : List UInt8} {i : Nat} (hi : i < l.length) : (bl l).data.toList.getD (i : Int).toNat 0 = l[i] := by
  rw [bl_list]
  show l.getD i 0 = _
  simp [List.getD, hi]
theorem ir_loop {l : List UInt8} (hl : l.length ≤ 100000) (lo hi : Int) (K : AExit → List Value → AH → Prop) :
    ∀ r i, i + r = l.length → ((l.drop i).all (rng lo hi) = true → K (.exit 0) [anyV] h0) → ((l.drop i).all (rng lo hi) = false → K .ret [.bool false] h0) → iter 0 Tryz.prog SB0 [] noHooks 600 26 [0, 1, 2, 9, 10] [] [6] [] (oneLoop (codeOf Tryz.f77) 2) (r + 1) [.string (bl l), .int .u8 lo, .int .u8 hi, .int .i64 (l.length : Int), .int .i64 (i : Int)] h0 K := by
  intro r
  induction r with
  | zero =>
    intro i h1 h2 _
    exact (irr _ _ _ _ _ _ K).mpr (pick_f (by simp; omega) (h2 (by rw [List.drop_of_length_le (by omega)]; rfl)))
  | succ r ih =>
    intro i h1 h2 h3
    have hi' : i < l.length := by omega
    have hs := bl_size l
    have hd : l.drop i = l[i] :: l.drop (i + 1) := List.drop_eq_getElem_cons hi'
    rw [hd, List.all_cons] at h2 h3
    have hin : (decide (0 ≤ (i : Int)) && decide ((i : Int) < ((bl l).size : Int))) = true := by simp; omega
    refine (irr _ _ _ _ _ _ K).mpr (pick_t (decide_eq_true (by omega)) (need_mk hin ?_))
    rw [get_at hi']
    unfold rng at h2 h3
    by_cases c1 : ((l[i].toNat : Nat) : Int) < lo
    · rw [decide_eq_true c1] at h3 ⊢
      exact h3 (by simp)
    · rw [decide_eq_false c1] at h2 h3 ⊢
      refine need_mk hin ?_
      by_cases c2 : ((l[i].toNat : Nat) : Int) > hi
      · rw [decide_eq_true c2] at h3 ⊢
        exact h3 (by simp)
      · rw [decide_eq_false c2] at h2 h3 ⊢
        rw [wrap1 (by omega)]
        exact ih (i + 1) (by omega) (fun q => h2 (by simpa [rng] using q)) (fun q => h3 (by simpa [rng] using q))
theorem oneIR : (loopAt (codeOf Tryz.f77) 2).length = 1 := by kernel_rfl
theorem someIR : Tryz.f77.body.isSome = true := by kernel_rfl
theorem irT (s : ByteArray) (lo hi : Int) (C : List Value → AH → Prop) (Q : Value → Prop) :
    tfn Tryz.prog SB0 [] (hook1 2 (hookLS 0 26 [0, 1, 2, 9, 10] [] [6] (fun vals h K => C vals h ∧ K (.exit 0) [anyV] h0))) 600 [] Tryz.f77 [.string s, .int .u8 lo, .int .u8 hi] h0 (fun v _ => Q v) =
      (C [.string s, .int .u8 lo, .int .u8 hi, .int .i64 (s.size : Int), .int .i64 0] h0 ∧ Q (.bool true)) := by kernel_rfl
theorem irF (s : ByteArray) (lo hi : Int) (C : List Value → AH → Prop) (Q : Value → Prop) :
    tfn Tryz.prog SB0 [] (hook1 2 (hookLS 0 26 [0, 1, 2, 9, 10] [] [6] (fun vals h K => C vals h ∧ K .ret [.bool false] h0))) 600 [] Tryz.f77 [.string s, .int .u8 lo, .int .u8 hi] h0 (fun v _ => Q v) =
      (C [.string s, .int .u8 lo, .int .u8 hi, .int .i64 (s.size : Int), .int .i64 0] h0 ∧ Q (.bool false)) := by kernel_rfl
theorem ir_fn {l : List UInt8} (hl : l.length ≤ 100000) (lo hi : Int) : FnOK 0 Tryz.prog 77 ⟨[.string (bl l), .int .u8 lo, .int .u8 hi]⟩ h0 (fun v _ => v = .bool (l.all (rng lo hi))) := by
  cases hc : l.all (rng lo hi) with
  | true =>
    have hsp : LSpec 0 Tryz.prog 26 (oneLoop (codeOf Tryz.f77) 2) (hookLS 0 26 [0, 1, 2, 9, 10] [] [6] (fun vals h K => (vals = [.string (bl l), .int .u8 lo, .int .u8 hi, .int .i64 (l.length : Int), .int .i64 0] ∧ h = h0) ∧ K (.exit 0) [anyV] h0)) := by
      refine hook_ok (G := []) (L := noHooks) (f := 600) (sameX := []) SB0_ok mixed (by decide) (loops_none _ _ _ _) ?_
      rintro vals h K ⟨⟨rfl, rfl⟩, hK⟩
      exact ⟨_, ir_loop hl lo hi K l.length 0 (by omega) (fun _ => hK) (fun q => by rw [List.drop_zero, hc] at q; cases q)⟩
    refine FnOK.ttree SB0_ok mixed Tryz.func77 someIR (loops_one oneIR hsp) (irT (bl l) lo hi _ (fun v => v = .bool true)) ?_
    exact ⟨⟨by rw [bl_size], rfl⟩, rfl⟩
  | false =>
    have hsp : LSpec 0 Tryz.prog 26 (oneLoop (codeOf Tryz.f77) 2) (hookLS 0 26 [0, 1, 2, 9, 10] [] [6] (fun vals h K => (vals = [.string (bl l), .int .u8 lo, .int .u8 hi, .int .i64 (l.length : Int), .int .i64 0] ∧ h = h0) ∧ K .ret [.bool false] h0)) := by
      refine hook_ok (G := []) (L := noHooks) (f := 600) (sameX := []) SB0_ok mixed (by decide) (loops_none _ _ _ _) ?_
      rintro vals h K ⟨⟨rfl, rfl⟩, hK⟩
      exact ⟨_, ir_loop hl lo hi K l.length 0 (by omega) (fun q => by rw [List.drop_zero, hc] at q; cases q) (fun _ => hK)⟩
    refine FnOK.ttree SB0_ok mixed Tryz.func77 someIR (loops_one oneIR hsp) (irF (bl l) lo hi _ (fun v => v = .bool false)) ?_
    exact ⟨⟨by rw [bl_size], rfl⟩, rfl⟩
noncomputable def spIr (f : FuncId) (args : Array Value) (h : AH) : Option (Bool × Value × AH) :=
  cond (Nat.beq f 77) (match args with
    | ⟨[.string s, .int .u8 lo, .int .u8 hi]⟩ => some (Nat.ble s.data.toList.length 100000, .bool (s.data.toList.all (rng lo hi)), h)
    | _ => none) none
theorem spIr_ok : SpOK spIr := by
  intro f args h v h' hs
  unfold spIr at hs
  obtain ⟨hf, hs2⟩ := cond_some hs
  clear hs
  have := Nat.eq_of_beq_eq_true hf
  subst this
  split at hs2
  · injection hs2 with hs
    injection hs with hb hs
    injection hs with hv hh
    subst hv hh
    rename_i s lo hi
    have := ir_fn (Nat.le_of_ble_eq_true hb) lo hi
    rw [bl_self] at this
    exact ⟨FnOK.pure this rfl rfl h, Nat.le_refl _⟩
  · cases hs2

/-! normalUnits -/
noncomputable def SN1 : SC := ⟨idn, spOr spIf (spOr spIh (spOr spPc spPu)), true, true⟩
theorem SN1_ok : SN1.cfg.OK Tryz.prog := (spIf_ok.or (spIh_ok.or (spPc_ok.or spPu_ok))).cfg
def nH0 : AH := ⟨1, 1, [(0, .cells ⟨[.pointer none, .slice none 0 0]⟩ 96 (0, 0))]⟩
def nH1 (cs : List Value) (k : Nat) : AH := ⟨2, 2, [(0, .cells ⟨[.pointer (some ⟨0, 0, none⟩), .slice (some ⟨1, 0, none⟩) k k]⟩ 96 (0, 0)), (1, .cells ⟨cs⟩ 5 (0, 0))]⟩
def bT (s : ByteArray) (i : Int) : Int := ((s.data.toList.getD i.toNat 0).toNat : Int)
def W8 (n : Int) : Int := IntKind.u8.wrap n
def W (n : Int) : Int := IntKind.i64.wrap n
noncomputable def nuR (s : ByteArray) (i : Int) (wr : List Value → Nat → Int → Prop) (bad fin : Prop) : Prop :=
  bif decide (i < (s.size : Int)) then bif decide (0 ≤ i) && decide (i < (s.size : Int)) then
    bif bT s i != 37 then bif decide (0 ≤ i) && decide (i < (s.size : Int)) then wr [.int .u8 (bT s i)] 1 (W (i + 1)) else False
    else bif decide (W (i + 2) < (s.size : Int)) then bif decide (0 ≤ W (i + 1)) && decide (W (i + 1) < (s.size : Int)) then bif decide (bT s (W (i + 1)) < 256) then
      bif isHexB (byI (bT s (W (i + 1)))) then bif decide (0 ≤ W (i + 2)) && decide (W (i + 2) < (s.size : Int)) then bif decide (bT s (W (i + 2)) < 256) then
        bif !isHexB (byI (bT s (W (i + 2)))) then bad else
          bif decide (0 ≤ W (i + 1)) && decide (W (i + 1) ≤ W (i + 3)) && decide (W (i + 3) ≤ (s.size : Int)) then bif hx2 (s.extract (W (i + 1)).toNat (W (i + 3)).toNat) && true && true then
            bif decide (W8 (un2 (s.extract (W (i + 1)).toNat (W (i + 3)).toNat)) < 256) then
              bif freeB (byI (W8 (un2 (s.extract (W (i + 1)).toNat (W (i + 3)).toNat)))) then wr [.int .u8 (W8 (un2 (s.extract (W (i + 1)).toNat (W (i + 3)).toNat)))] 1 (W (W (i + 2) + 1))
              else bif decide (W8 (un2 (s.extract (W (i + 1)).toNat (W (i + 3)).toNat)) < 256) then wr ((pctB (byI (W8 (un2 (s.extract (W (i + 1)).toNat (W (i + 3)).toNat))))).map u8V) (bl (pctB (byI (W8 (un2 (s.extract (W (i + 1)).toNat (W (i + 3)).toNat)))))).size (W (W (i + 2) + 1)) else False
            else False else False else False
      else False else False
      else bad else False else False
    else bad
  else False else fin
theorem nur0 (s : ByteArray) (i : Int) (B : List Value → AH → Prop) (Q : AExit → List Value → AH → Prop) : once 0 Tryz.prog SN1 [] noHooks 600 38 [0, 4, 5] [1] [2, 3, 4] [1] (oneLoop (codeOf Tryz.f83) 3) [.string s, .pointer (some ⟨0, 0, none⟩), .int .i64 i] nH0 B Q =
    nuR s i (fun vs n j => NoNames (.cells ⟨vs⟩ 5 (0, 0)) ∧ B [.string s, .pointer (some ⟨0, 0, none⟩), .int .i64 j] (nH1 vs n)) (Q .ret [.string ⟨#[]⟩, .bool false, .pointer (some ⟨0, 0, none⟩)] nH0) (Q (.exit 0) [anyV, anyV, .pointer (some ⟨0, 0, none⟩)] nH0) := by kernel_rfl
noncomputable def apT (cs : List Value) (k n : Nat) (vs : List Value) (K : List Value → Nat → Prop) : Prop :=
  bif (k + n).ble k then False else bif (k + n).ble 9223372036854775807 && ((k + n) * 1).ble 140737488355328 then bif (0 + k * 1).ble (Array.mk cs).size && true && true then K (List.take (k * 1) (List.drop 0 (Array.mk cs).toList) ++ vs) (k + n) else False else False
theorem nur1 (s : ByteArray) (i : Int) (cs : List Value) (k : Nat) (B : List Value → AH → Prop) (Q : AExit → List Value → AH → Prop) : once 0 Tryz.prog SN1 [] noHooks 600 38 [0, 4, 5] [1] [2, 3, 4] [1] (oneLoop (codeOf Tryz.f83) 3) [.string s, .pointer (some ⟨0, 0, none⟩), .int .i64 i] (nH1 cs k) B Q =
    nuR s i (fun vs n j => apT cs k n vs fun cs k => NoNames (.cells ⟨cs⟩ 5 (0, 0)) ∧ B [.string s, .pointer (some ⟨0, 0, none⟩), .int .i64 j] (nH1 cs k)) (NoNames (.cells ⟨cs⟩ 5 (0, 0)) ∧ Q .ret [.string ⟨#[]⟩, .bool false, .pointer (some ⟨0, 0, none⟩)] (nH1 cs k)) (NoNames (.cells ⟨cs⟩ 5 (0, 0)) ∧ Q (.exit 0) [anyV, anyV, .pointer (some ⟨0, 0, none⟩)] (nH1 cs k)) := by kernel_rfl
/-- What was written so far. -/
def nH : List UInt8 → AH
  | [] => nH0
  | b :: l => nH1 ((b :: l).map u8V) (b :: l).length
theorem nnU (D : List UInt8) (t : TypeId) (fr : Nat × Nat) : NoNames (.cells ⟨D.map u8V⟩ t fr) := by
  intro v hv
  obtain ⟨d, _, rfl⟩ := List.mem_map.1 (show v ∈ D.map u8V from hv)
  rfl
theorem ble_no {k n : Nat} (h : k < n) : n.ble k = false := by
  cases q : n.ble k with
  | false => rfl
  | true => exact absurd (Nat.le_of_ble_eq_true q) (by omega)
theorem apT_ok {D bs : List UInt8} {n : Nat} {vs : List Value} {K : List Value → Nat → Prop} (hv : vs = bs.map u8V) (hn : n = bs.length) (hb : bs ≠ []) (hl : D.length ≤ 100000) (hl2 : bs.length ≤ 100000) (hK : K ((D ++ bs).map u8V) (D ++ bs).length) : apT (D.map u8V) D.length n vs K := by
  subst hv hn
  have hp := List.length_pos_iff.2 hb
  refine pick_f (ble_no (by omega)) (need_mk ?_ (need_mk ?_ ?_))
  · rw [Bool.and_eq_true, Nat.ble_eq, Nat.ble_eq]; omega
  · have : (0 + D.length * 1).ble (Array.mk (D.map u8V)).size = true := by
      rw [Nat.ble_eq]
      show 0 + D.length * 1 ≤ (D.map u8V).length
      rw [List.length_map]; omega
    rw [this]; rfl
  · have e : List.take (D.length * 1) (List.drop 0 (Array.mk (D.map u8V)).toList) ++ bs.map u8V = (D ++ bs).map u8V := by
      rw [List.drop_zero, Nat.mul_one, List.map_append]
      show List.take D.length (D.map u8V) ++ _ = _
      rw [List.take_of_length_le (by rw [List.length_map]; exact Nat.le_refl _)]
    rw [e]
    rw [List.length_append] at hK
    exact hK
theorem cm {c : Bool} {a b a' b' : Prop} (ha : a → a') (hb : b → b') (h : cond c a b) : cond c a' b' := by
  cases c
  · exact hb h
  · exact ha h
set_option maxRecDepth 20000 in
theorem nuR_mono {s : ByteArray} {i : Int} {wr wr' : List Value → Nat → Int → Prop} {bad bad' fin fin' : Prop} (hw : ∀ vs n j, wr vs n j → wr' vs n j) (hb : bad → bad') (hf : fin → fin') (h : nuR s i wr bad fin) : nuR s i wr' bad' fin' := by
  unfold nuR at h ⊢
  revert h
  repeat' (first | refine cm ?_ ?_ | exact hw _ _ _ | exact hb | exact hf | exact id)
theorem nu_step (s : ByteArray) (i : Int) (D : List UInt8) (hl : D.length ≤ 90000) (B : List Value → AH → Prop) (Q : AExit → List Value → AH → Prop)
    (h : nuR s i (fun vs n j => ∃ bs : List UInt8, vs = bs.map u8V ∧ n = bs.length ∧ bs ≠ [] ∧ bs.length ≤ 10 ∧ B [.string s, .pointer (some ⟨0, 0, none⟩), .int .i64 j] (nH (D ++ bs))) (Q .ret [.string ⟨#[]⟩, .bool false, .pointer (some ⟨0, 0, none⟩)] (nH D)) (Q (.exit 0) [anyV, anyV, .pointer (some ⟨0, 0, none⟩)] (nH D))) :
    once 0 Tryz.prog SN1 [] noHooks 600 38 [0, 4, 5] [1] [2, 3, 4] [1] (oneLoop (codeOf Tryz.f83) 3) [.string s, .pointer (some ⟨0, 0, none⟩), .int .i64 i] (nH D) B Q := by
  cases D with
  | nil =>
    refine (nur0 s i B Q).mpr (nuR_mono ?_ id id h)
    rintro vs n j ⟨bs, rfl, rfl, h3, _, hB⟩
    refine ⟨nnU _ _ _, ?_⟩
    cases bs with
    | nil => exact absurd rfl h3
    | cons b l => exact hB
  | cons d D =>
    refine (nur1 s i _ _ B Q).mpr (nuR_mono ?_ (fun q => ⟨nnU _ _ _, q⟩) (fun q => ⟨nnU _ _ _, q⟩) h)
    rintro vs n j ⟨bs, h1, h2, h3, h4, hB⟩
    exact apT_ok (D := d :: D) h1 h2 h3 (by omega) (by omega) ⟨nnU _ _ _, hB⟩
theorem w8_id (c : UInt8) : W8 (c.toNat : Int) = (c.toNat : Int) := by
  have := all_u8 (p := fun c => W8 (c.toNat : Int) == (c.toNat : Int)) (by decide +kernel) c
  exact eq_of_beq this
theorem w_nat {i : Nat} (k : Nat) (h : i ≤ 1000000) (hk : k ≤ 10) : W ((i : Int) + (k : Int)) = ((i + k : Nat) : Int) := by unfold W; rw [wrap_id _ (by omega) (by omega)]; rfl
theorem bT_at {pre l : List UInt8} {c : UInt8} (k : Nat) (h : l[k]? = some c) : bT (bl (pre ++ l)) ((pre.length + k : Nat) : Int) = (c.toNat : Int) := by
  unfold bT
  rw [bl_list]
  show (((pre ++ l).getD (pre.length + k) 0).toNat : Int) = _
  rw [List.getD, List.getElem?_append_right (by omega), Nat.add_sub_cancel_left, h]
  rfl
theorem u8_lt (c : UInt8) : decide ((c.toNat : Int) < 256) = true := decide_eq_true (by have := c.toNat_lt; omega)
theorem ne37 {c : UInt8} : ((c.toNat : Int) != 37) = decide (c ≠ 37) := by
  have := all_u8 (p := fun c => ((c.toNat : Int) != 37) == decide (c ≠ 37)) (by decide +kernel) c
  exact eq_of_beq this
theorem nu_it (n : Nat) {vals : List Value} {h : AH} {K : AExit → List Value → AH → Prop} (hx : once 0 Tryz.prog SN1 [] noHooks 600 38 [0, 4, 5] [1] [2, 3, 4] [1] (oneLoop (codeOf Tryz.f83) 3) vals h (fun v g => iter 0 Tryz.prog SN1 [] noHooks 600 38 [0, 4, 5] [1] [2, 3, 4] [1] (oneLoop (codeOf Tryz.f83) 3) n v g K) K) : iter 0 Tryz.prog SN1 [] noHooks 600 38 [0, 4, 5] [1] [2, 3, 4] [1] (oneLoop (codeOf Tryz.f83) 3) (n + 1) vals h K := hx
set_option maxRecDepth 20000 in
theorem nu_loop (K : AExit → List Value → AH → Prop) : ∀ (m : Nat) (l pre D : List UInt8), l.length ≤ m → (pre ++ l).length ≤ 20000 → D.length ≤ pre.length →
    (∀ r, nu l = some r → K (.exit 0) [anyV, anyV, .pointer (some ⟨0, 0, none⟩)] (nH (D ++ r))) → (nu l = none → ∀ o, K .ret [.string ⟨#[]⟩, .bool false, .pointer (some ⟨0, 0, none⟩)] (nH o)) → iter 0 Tryz.prog SN1 [] noHooks 600 38 [0, 4, 5] [1] [2, 3, 4] [1] (oneLoop (codeOf Tryz.f83) 3) (m + 1) [.string (bl (pre ++ l)), .pointer (some ⟨0, 0, none⟩), .int .i64 ((pre.length : Nat) : Int)] (nH D) K := by
  intro m
  induction m with
  | zero =>
    intro l pre D h1 h2 h3 h4 h5
    have : l = [] := List.length_eq_zero_iff.1 (by omega)
    subst this
    refine nu_it 0 (nu_step _ _ _ (by simp at h2; omega) _ _ ?_)
    refine pick_f (decide_eq_false (by rw [bl_size]; simp)) ?_
    simpa using h4 [] rfl
  | succ m ih =>
    intro l pre D h1 h2 h3 h4 h5
    refine nu_it (m + 1) (nu_step _ _ _ (by rw [List.length_append] at h2; omega) _ _ ?_)
    have hsz : (bl (pre ++ l)).size = pre.length + l.length := by rw [bl_size, List.length_append]
    rw [List.length_append] at h2
    cases l with
    | nil =>
      refine pick_f (decide_eq_false (by rw [hsz]; simp)) ?_
      simpa using h4 [] rfl
    | cons c l =>
      simp only [List.length_cons] at hsz h1 h2
      have b0 : bT (bl (pre ++ c :: l)) ((pre.length : Nat) : Int) = (c.toNat : Int) := bT_at 0 rfl
      have hin : (decide (0 ≤ ((pre.length : Nat) : Int)) && decide (((pre.length : Nat) : Int) < ((bl (pre ++ c :: l)).size : Int))) = true := by rw [hsz]; simp; omega
      refine pick_t (decide_eq_true (by rw [hsz]; omega)) (need_mk hin ?_)
      rw [b0, ne37]
      by_cases hc : c = 37
      · refine pick_f (by simp [hc]) ?_
        have w1 : W ((pre.length : Int) + 1) = ((pre.length + 1 : Nat) : Int) := w_nat 1 (by omega) (by omega)
        have w2 : W ((pre.length : Int) + 2) = ((pre.length + 2 : Nat) : Int) := w_nat 2 (by omega) (by omega)
        have w3 : W ((pre.length : Int) + 3) = ((pre.length + 3 : Nat) : Int) := w_nat 3 (by omega) (by omega)
        rw [w1, w2, w3]
        subst hc
        match l, hsz, h1, h2, h4, h5 with
        | [], hsz, _, _, _, h5 => exact pick_f (decide_eq_false (by rw [hsz]; simp <;> omega)) (h5 rfl _)
        | [a], hsz, _, _, _, h5 => exact pick_f (decide_eq_false (by rw [hsz]; simp <;> omega)) (h5 (nu_short (by simp)) _)
        | a :: b :: r, hsz, h1, h2, h4, h5 =>
          simp only [List.length_cons] at hsz h1 h2
          have b1 : bT (bl (pre ++ 37 :: a :: b :: r)) ((pre.length + 1 : Nat) : Int) = (a.toNat : Int) := bT_at 1 rfl
          have b2 : bT (bl (pre ++ 37 :: a :: b :: r)) ((pre.length + 2 : Nat) : Int) = (b.toNat : Int) := bT_at 2 rfl
          have hx : (bl (pre ++ 37 :: a :: b :: r)).extract ((pre.length + 1 : Nat) : Int).toNat ((pre.length + 3 : Nat) : Int).toNat = bl [a, b] := by
            show (bl (pre ++ 37 :: a :: b :: r)).extract (pre.length + 1) (pre.length + 3) = _
            rw [bl_cut _ _ _ (by simp)]
            congr 1
            rw [show pre ++ 37 :: a :: b :: r = (pre ++ [37]) ++ ([a, b] ++ r) by simp]
            rw [List.take_append, List.take_of_length_le (by simp), List.drop_append, List.drop_of_length_le (by simp)]
            simp
          have wz : W (((pre.length + 2 : Nat) : Int) + 1) = ((pre.length + 3 : Nat) : Int) := w_nat 1 (by omega) (by omega)
          rw [b1, b2, hx, wz, byI_of, byI_of]
          refine pick_t (decide_eq_true (by rw [hsz]; omega)) (need_mk (by rw [hsz]; simp; omega) (need_mk (u8_lt a) ?_))
          cases ha : isHexB a with
          | false => exact h5 (nu_bad r (by rw [ha]; rfl)) _
          | true =>
            refine need_mk (by rw [hsz]; simp; omega) (need_mk (u8_lt b) ?_)
            cases hb : isHexB b with
            | false => exact h5 (nu_bad r (by rw [hb, ha]; rfl)) _
            | true =>
              have hn := nu_unit (a := a) (b := b) r (by rw [ha, hb]; rfl)
              have hu : un2 (bl [a, b]) = ((unitB a b).toNat : Int) := rfl
              have h2x : hx2 (bl [a, b]) = true := by
                have : hx2 (bl [a, b]) = (isHexB a && isHexB b) := rfl
                rw [this, ha, hb]; rfl
              rw [hu, w8_id, byI_of, h2x]
              refine need_mk (by rw [hsz]; simp; omega) (need_mk rfl (need_mk (u8_lt _) ?_))
              have hpre : pre ++ 37 :: a :: b :: r = (pre ++ [37, a, b]) ++ r := by simp
              have hpl : (pre.length + 3 : Nat) = (pre ++ [37, a, b]).length := by simp
              have go : ∀ bs : List UInt8, bs = tok (unitB a b) → iter 0 Tryz.prog SN1 [] noHooks 600 38 [0, 4, 5] [1] [2, 3, 4] [1] (oneLoop (codeOf Tryz.f83) 3) (m + 1) [.string (bl (pre ++ 37 :: a :: b :: r)), .pointer (some ⟨0, 0, none⟩), .int .i64 ((pre.length + 3 : Nat) : Int)] (nH (D ++ bs)) K := by
                intro bs hbs
                have hlb := tok_len (unitB a b)
                rw [hpre, hpl]
                refine ih r (pre ++ [37, a, b]) (D ++ bs) (by omega) (by simp; omega) (by rw [hbs]; simp; omega) (fun q hq => ?_) (fun hq o => ?_)
                · have := h4 (tok (unitB a b) ++ q) (by rw [hn, hq]; rfl)
                  rw [hbs, List.append_assoc]; exact this
                · exact h5 (by rw [hn, hq]; rfl) o
              cases hf : freeB (unitB a b) with
              | true => exact ⟨[unitB a b], rfl, rfl, by simp, by simp, go _ (by unfold tok; rw [hf]; rfl)⟩
              | false => exact need_mk (u8_lt _) ⟨pctB (unitB a b), rfl, bl_size _, by simp [pctB], by simp [pctB], go _ (by unfold tok; rw [hf]; rfl)⟩
      · refine pick_t (decide_eq_true hc) (need_mk hin ?_)
        have w1 : W ((pre.length : Int) + 1) = ((pre.length + 1 : Nat) : Int) := w_nat 1 (by omega) (by omega)
        rw [w1]
        refine ⟨[c], rfl, rfl, by simp, by simp, ?_⟩
        have hpre : pre ++ c :: l = (pre ++ [c]) ++ l := by simp
        have hpl : (pre.length + 1 : Nat) = (pre ++ [c]).length := by simp
        rw [hpre, hpl]
        have hn := nu_cons hc l
        refine ih l (pre ++ [c]) (D ++ [c]) (by omega) (by simp; omega) (by simp; omega) (fun q hq => ?_) (fun hq o => ?_)
        · have := h4 (c :: q) (by rw [hn, hq]; rfl)
          rw [List.append_assoc]; exact this
        · exact h5 (by rw [hn, hq]; rfl) o
end Go.Proofs.YtnaeehnkabojdaaGreatDoor
