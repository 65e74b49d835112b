/-
  Tokens: signs that are read.
-/
import Derived.Test.YtklednomnpghcaaGreatDoorRvC
namespace Go.Proofs.YtklednomnpghcaaGreatDoor
open Go.Ev Go.RowKit RecLaw PathLaw QueryLaw B64Law

/-! IndexByte among the signs -/
def ixF (n : Int) : Int := Lib.indexByte sgn (byI n)
def isIN (n : Int) (x : Option (Value × AH)) : Bool :=
  match x with
  | some (.int .i64 c, _) => c == n
  | _ => false
theorem isIN_eq {n : Int} {x : Option (Value × AH)} (h : isIN n x = true) : ∃ h', x = some (.int .i64 n, h') := by
  unfold isIN at h
  split at h
  · rename_i c h'
    have := eq_of_beq h
    subst this
    exact ⟨h', rfl⟩
  · cases h
theorem someIB : Tryz.f167.body.isSome = true := by kernel_rfl
theorem ib_runs : ((List.range 256).all fun n => isIN (Lib.indexByte sgn (UInt8.ofNat n)) (arunz Tryz.prog SSx.cfg 1000 Tryz.f167 [.string sgB, .int .u8 (n : Int)] h0)) = true := by kernel_rfl
theorem ib_fn {n : Int} (h0' : 0 ≤ n) (h1 : n < 256) : FnOK 0 Tryz.prog 167 ⟨[.string sgB, .int .u8 n]⟩ h0 (fun u _ => u = .int .i64 (ixF n)) := by
  obtain ⟨q1, q2⟩ := n_u8 h0' h1
  have := List.all_eq_true.1 ib_runs _ q1
  rw [q2] at this
  obtain ⟨h', hr⟩ := isIN_eq this
  exact (arunz_ok SSx_ok mixed Tryz.func167 someIB hr).mono fun _ _ q => q.1
def isSg (s : ByteArray) : Bool := s.data.toList == sgn
noncomputable def spIb (f : FuncId) (args : Array Value) (h : AH) : Option (Bool × Value × AH) :=
  cond (Nat.beq f 167) (match args with
    | ⟨[.string s, .int .u8 n]⟩ => some (isSg s && (decide (0 ≤ n) && decide (n < 256)), .int .i64 (ixF n), h)
    | _ => none) none
theorem spIb_ok : SpOK spIb := by
  intro f args h v h' hs
  unfold spIb at hs
  obtain ⟨hf, hs2⟩ := cond_some hs
  clear hs
  have := Nat.eq_of_beq_eq_true hf
  subst this
  split at hs2
  · injection hs2 with hs
    injection hs with hb hs
    injection hs with hv hh
    subst hv hh
    rename_i s n
    simp only [Bool.and_eq_true, decide_eq_true_eq] at hb
    obtain ⟨b1, b2, b3⟩ := hb
    have e : s = sgB := by
      have := eq_of_beq b1
      rw [← bl_self s, this]
      rfl
    subst e
    exact ⟨FnOK.pure (ib_fn b2 b3) rfl rfl h, Nat.le_refl _⟩
  · cases hs2
noncomputable def SD0 : SC := ⟨idn, spIb, true, true⟩
theorem SD0_ok : SD0.cfg.OK Tryz.prog := spIb_ok.cfg
def ixDe (r : ByteArray) (i : Int) : Int := ixF (bT r i)
noncomputable def ibT (r : ByteArray) (i : Int) (X : Prop) : Prop := bif isSg sgB && (decide (0 ≤ bT r i) && decide (bT r i < 256)) then X else False
def sh6 (a : Int) : Int := IntKind.i64.wrap (a * 64)
def y2 (r : ByteArray) : Int := sh6 (sh6 (orI (sh6 (orI 0 (ixDe r 0))) (ixDe r 1)))
def y3 (r : ByteArray) : Int := sh6 (orI (sh6 (orI (sh6 (orI 0 (ixDe r 0))) (ixDe r 1))) (ixDe r 2))
def y4 (r : ByteArray) : Int := orI (sh6 (orI (sh6 (orI (sh6 (orI 0 (ixDe r 0))) (ixDe r 1))) (ixDe r 2))) (ixDe r 3)
def mn4 (s : ByteArray) : Int := if (s.size : Int) < 4 then (s.size : Int) else 4
def dbV (X d : Int) : Value := .int .u8 (IntKind.u8.wrap (X.fdiv d))
noncomputable def deL (n : Int) (X : Int) : Hooks := hookOr (ghost1 4 (tellG 61 6 (.int .i64 n))) (ghost1 16 (tellG 61 7 (.int .i64 X)))
theorem deL_ok (n X : Int) : LoopsOK 0 Tryz.prog 61 (deL n X) (oneLoop (codeOf Tryz.f146) 3) := loops_or (ghosts_one (by kernel_rfl) (tellG_ok _ _ _ _ _)) (ghosts_one (by kernel_rfl) (tellG_ok _ _ _ _ _))
theorem dn2 (s r : ByteArray) (X : Int) (B : List Value → AH → Prop) (Q : AExit → List Value → AH → Prop) : once 0 Tryz.prog SD0 [] (deL 2 X) 900 61 [0, 4, 5] [0] [0, 2, 3, 4] [0] (oneLoop (codeOf Tryz.f146) 3) [.string s, .slice none 0 0, .string r] h0 B Q =
    bif decide ((r.size : Int) > 0) then Value.int .i64 (mn4 r) = .int .i64 2 ∧ rdS r 0 (ibT r 0 (bif decide (ixDe r 0 < 0) then (Q .ret [.string s, .string ⟨#[]⟩, .int .i64 9, .slice none 0 0] h0) else rdS r 1 (ibT r 1 (bif decide (ixDe r 1 < 0) then (Q .ret [.string s, .string ⟨#[]⟩, .int .i64 9, .slice none 0 0] h0) else Value.int .i64 (y2 r) = .int .i64 X ∧ cutE r 2 fun q => NNB [dbV X 65536] ∧ B [.string s, slB 1, .string q] (oB [dbV X 65536]))))) else Q (.exit 0) [.string s, anyV, anyV, .slice none 0 0] h0 := by kernel_rfl
theorem dr2 (s r : ByteArray) (X : Int) (cs : List Value) (k : Nat) (B : List Value → AH → Prop) (Q : AExit → List Value → AH → Prop) : once 0 Tryz.prog SD0 [] (deL 2 X) 900 61 [0, 4, 5] [0] [0, 2, 3, 4] [0] (oneLoop (codeOf Tryz.f146) 3) [.string s, slB k, .string r] (oB cs) B Q =
    bif decide ((r.size : Int) > 0) then Value.int .i64 (mn4 r) = .int .i64 2 ∧ rdS r 0 (ibT r 0 (bif decide (ixDe r 0 < 0) then (NNB cs ∧ Q .ret [.string s, .string ⟨#[]⟩, .int .i64 9, slB k] (oB cs)) else rdS r 1 (ibT r 1 (bif decide (ixDe r 1 < 0) then (NNB cs ∧ Q .ret [.string s, .string ⟨#[]⟩, .int .i64 9, slB k] (oB cs)) else Value.int .i64 (y2 r) = .int .i64 X ∧ apT cs k 1 [dbV X 65536] fun cs k => cutE r 2 fun q => NNB cs ∧ B [.string s, slB k, .string q] (oB cs))))) else NNB cs ∧ Q (.exit 0) [.string s, anyV, anyV, slB k] (oB cs) := by kernel_rfl
theorem dn3 (s r : ByteArray) (X : Int) (B : List Value → AH → Prop) (Q : AExit → List Value → AH → Prop) : once 0 Tryz.prog SD0 [] (deL 3 X) 900 61 [0, 4, 5] [0] [0, 2, 3, 4] [0] (oneLoop (codeOf Tryz.f146) 3) [.string s, .slice none 0 0, .string r] h0 B Q =
    bif decide ((r.size : Int) > 0) then Value.int .i64 (mn4 r) = .int .i64 3 ∧ rdS r 0 (ibT r 0 (bif decide (ixDe r 0 < 0) then (Q .ret [.string s, .string ⟨#[]⟩, .int .i64 9, .slice none 0 0] h0) else rdS r 1 (ibT r 1 (bif decide (ixDe r 1 < 0) then (Q .ret [.string s, .string ⟨#[]⟩, .int .i64 9, .slice none 0 0] h0) else rdS r 2 (ibT r 2 (bif decide (ixDe r 2 < 0) then (Q .ret [.string s, .string ⟨#[]⟩, .int .i64 9, .slice none 0 0] h0) else Value.int .i64 (y3 r) = .int .i64 X ∧ cutE r 3 fun q => NNB [dbV X 65536, dbV X 256] ∧ B [.string s, slB 2, .string q] (oB [dbV X 65536, dbV X 256]))))))) else Q (.exit 0) [.string s, anyV, anyV, .slice none 0 0] h0 := by kernel_rfl
theorem dr3 (s r : ByteArray) (X : Int) (cs : List Value) (k : Nat) (B : List Value → AH → Prop) (Q : AExit → List Value → AH → Prop) : once 0 Tryz.prog SD0 [] (deL 3 X) 900 61 [0, 4, 5] [0] [0, 2, 3, 4] [0] (oneLoop (codeOf Tryz.f146) 3) [.string s, slB k, .string r] (oB cs) B Q =
    bif decide ((r.size : Int) > 0) then Value.int .i64 (mn4 r) = .int .i64 3 ∧ rdS r 0 (ibT r 0 (bif decide (ixDe r 0 < 0) then (NNB cs ∧ Q .ret [.string s, .string ⟨#[]⟩, .int .i64 9, slB k] (oB cs)) else rdS r 1 (ibT r 1 (bif decide (ixDe r 1 < 0) then (NNB cs ∧ Q .ret [.string s, .string ⟨#[]⟩, .int .i64 9, slB k] (oB cs)) else rdS r 2 (ibT r 2 (bif decide (ixDe r 2 < 0) then (NNB cs ∧ Q .ret [.string s, .string ⟨#[]⟩, .int .i64 9, slB k] (oB cs)) else Value.int .i64 (y3 r) = .int .i64 X ∧ apT cs k 1 [dbV X 65536] fun cs k => apT cs k 1 [dbV X 256] fun cs k => cutE r 3 fun q => NNB cs ∧ B [.string s, slB k, .string q] (oB cs))))))) else NNB cs ∧ Q (.exit 0) [.string s, anyV, anyV, slB k] (oB cs) := by kernel_rfl
theorem dn4 (s r : ByteArray) (X : Int) (B : List Value → AH → Prop) (Q : AExit → List Value → AH → Prop) : once 0 Tryz.prog SD0 [] (deL 4 X) 900 61 [0, 4, 5] [0] [0, 2, 3, 4] [0] (oneLoop (codeOf Tryz.f146) 3) [.string s, .slice none 0 0, .string r] h0 B Q =
    bif decide ((r.size : Int) > 0) then Value.int .i64 (mn4 r) = .int .i64 4 ∧ rdS r 0 (ibT r 0 (bif decide (ixDe r 0 < 0) then (Q .ret [.string s, .string ⟨#[]⟩, .int .i64 9, .slice none 0 0] h0) else rdS r 1 (ibT r 1 (bif decide (ixDe r 1 < 0) then (Q .ret [.string s, .string ⟨#[]⟩, .int .i64 9, .slice none 0 0] h0) else rdS r 2 (ibT r 2 (bif decide (ixDe r 2 < 0) then (Q .ret [.string s, .string ⟨#[]⟩, .int .i64 9, .slice none 0 0] h0) else rdS r 3 (ibT r 3 (bif decide (ixDe r 3 < 0) then (Q .ret [.string s, .string ⟨#[]⟩, .int .i64 9, .slice none 0 0] h0) else Value.int .i64 (y4 r) = .int .i64 X ∧ cutE r 4 fun q => NNB [dbV X 65536, dbV X 256, dbV X 1] ∧ B [.string s, slB 3, .string q] (oB [dbV X 65536, dbV X 256, dbV X 1]))))))))) else Q (.exit 0) [.string s, anyV, anyV, .slice none 0 0] h0 := by kernel_rfl
theorem dr4 (s r : ByteArray) (X : Int) (cs : List Value) (k : Nat) (B : List Value → AH → Prop) (Q : AExit → List Value → AH → Prop) : once 0 Tryz.prog SD0 [] (deL 4 X) 900 61 [0, 4, 5] [0] [0, 2, 3, 4] [0] (oneLoop (codeOf Tryz.f146) 3) [.string s, slB k, .string r] (oB cs) B Q =
    bif decide ((r.size : Int) > 0) then Value.int .i64 (mn4 r) = .int .i64 4 ∧ rdS r 0 (ibT r 0 (bif decide (ixDe r 0 < 0) then (NNB cs ∧ Q .ret [.string s, .string ⟨#[]⟩, .int .i64 9, slB k] (oB cs)) else rdS r 1 (ibT r 1 (bif decide (ixDe r 1 < 0) then (NNB cs ∧ Q .ret [.string s, .string ⟨#[]⟩, .int .i64 9, slB k] (oB cs)) else rdS r 2 (ibT r 2 (bif decide (ixDe r 2 < 0) then (NNB cs ∧ Q .ret [.string s, .string ⟨#[]⟩, .int .i64 9, slB k] (oB cs)) else rdS r 3 (ibT r 3 (bif decide (ixDe r 3 < 0) then (NNB cs ∧ Q .ret [.string s, .string ⟨#[]⟩, .int .i64 9, slB k] (oB cs)) else Value.int .i64 (y4 r) = .int .i64 X ∧ apT cs k 1 [dbV X 65536] fun cs k => apT cs k 1 [dbV X 256] fun cs k => apT cs k 1 [dbV X 1] fun cs k => cutE r 4 fun q => NNB cs ∧ B [.string s, slB k, .string q] (oB cs))))))))) else NNB cs ∧ Q (.exit 0) [.string s, anyV, anyV, slB k] (oB cs) := by kernel_rfl

/-! numbers -/
theorem or6_nat {a k : Nat} (hk : k < 64) (ha : a < 16777216) : orI ((a * 64 : Nat) : Int) (k : Int) = ((a * 64 + k : Nat) : Int) := by
  unfold orI
  rw [ofInt_nat, ofInt_nat, BitVec.toNat_or, BitVec.toNat_ofNat, BitVec.toNat_ofNat, Nat.mod_eq_of_lt (by omega), Nat.mod_eq_of_lt (by omega)]
  have := or_add a k 6 hk
  rw [show (2 : Nat) ^ 6 = 64 from rfl] at this
  rw [this, wrap_nat (by omega)]
theorem sh6_nat {a : Nat} (h : a < 1073741824) : sh6 (a : Int) = ((a * 64 : Nat) : Int) := by
  unfold sh6
  rw [show ((a : Int) * 64) = ((a * 64 : Nat) : Int) by omega, wrap_nat (by omega)]
theorem or60 {k : Nat} (hk : k < 64) : orI 0 (k : Int) = (k : Int) := by
  have := or6_nat (a := 0) (k := k) hk (by decide)
  simpa using this
theorem ix_sg : ∀ k < 64, Lib.indexByte sgn (sg k) = (k : Int) := by decide +kernel
theorem ixI_at {l : Bs} {k j : Nat} (hj : j < 64) (h : l[k]? = some (sg j)) : ixDe (bl l) (k : Int) = (j : Int) := by
  have := bT_at (pre := []) (l := l) k h
  rw [List.nil_append, List.length_nil, Nat.zero_add] at this
  unfold ixDe ixF
  rw [this, byI_of]
  exact ix_sg j hj
theorem isSg_B : isSg sgB = true := by decide +kernel
theorem ibT_mk {r : ByteArray} {i : Int} {X : Prop} (hX : X) : ibT r i X := by
  have hb : 0 ≤ bT r i ∧ bT r i < 256 := by
    unfold bT
    have := (r.data.toList.getD i.toNat 0).toNat_lt
    omega
  have hc : (isSg sgB && (decide (0 ≤ bT r i) && decide (bT r i < 256))) = true := by rw [isSg_B, decide_eq_true hb.1, decide_eq_true hb.2]; rfl
  unfold ibT
  rw [hc]
  exact hX
theorem dbV_nat {x d : Nat} (hx : x < 16777216) (hd : 0 < d) : dbV (x : Int) (d : Int) = .int .u8 ((x / d % 256 : Nat) : Int) := by
  unfold dbV
  rw [← Int.ofNat_fdiv]
  congr 1
theorem y2_of (a : UInt8) : sh6 (sh6 (orI (sh6 (orI 0 ((n3 a 0 0 / 262144 % 64 : Nat) : Int))) ((n3 a 0 0 / 4096 % 64 : Nat) : Int))) = ((n3 a 0 0 : Nat) : Int) := by
  have h0 : n3 a 0 0 / 262144 % 64 < 64 := Nat.mod_lt _ (by decide)
  have h1 : n3 a 0 0 / 4096 % 64 < 64 := Nat.mod_lt _ (by decide)
  rw [or60 h0, sh6_nat (by omega), or6_nat h1 (by omega), sh6_nat (by omega), sh6_nat (by omega)]
  have := m2_of a
  unfold m4 at this
  omega
theorem y3_of (a b : UInt8) : sh6 (orI (sh6 (orI (sh6 (orI 0 ((n3 a b 0 / 262144 % 64 : Nat) : Int))) ((n3 a b 0 / 4096 % 64 : Nat) : Int))) ((n3 a b 0 / 64 % 64 : Nat) : Int)) = ((n3 a b 0 : Nat) : Int) := by
  have h0 : n3 a b 0 / 262144 % 64 < 64 := Nat.mod_lt _ (by decide)
  have h1 : n3 a b 0 / 4096 % 64 < 64 := Nat.mod_lt _ (by decide)
  have h2 : n3 a b 0 / 64 % 64 < 64 := Nat.mod_lt _ (by decide)
  rw [or60 h0, sh6_nat (by omega), or6_nat h1 (by omega), sh6_nat (by omega), or6_nat h2 (by omega), sh6_nat (by omega)]
  have := m3_of a b
  unfold m4 at this
  omega
theorem y4_of (a b c : UInt8) : orI (sh6 (orI (sh6 (orI (sh6 (orI 0 ((n3 a b c / 262144 % 64 : Nat) : Int))) ((n3 a b c / 4096 % 64 : Nat) : Int))) ((n3 a b c / 64 % 64 : Nat) : Int))) ((n3 a b c / 1 % 64 : Nat) : Int) = ((n3 a b c : Nat) : Int) := by
  have h0 : n3 a b c / 262144 % 64 < 64 := Nat.mod_lt _ (by decide)
  have h1 : n3 a b c / 4096 % 64 < 64 := Nat.mod_lt _ (by decide)
  have h2 : n3 a b c / 64 % 64 < 64 := Nat.mod_lt _ (by decide)
  have h3 : n3 a b c / 1 % 64 < 64 := Nat.mod_lt _ (by decide)
  rw [or60 h0, sh6_nat (by omega), or6_nat h1 (by omega), sh6_nat (by omega), or6_nat h2 (by omega), sh6_nat (by omega), or6_nat h3 (by omega)]
  have := m4_of (n3 a b c) (n3_lt a b c)
  unfold m4 at this
  omega

/-! the loop -/
def deV (s : ByteArray) (r D : Bs) : List Value := [.string s, outE D, .string (bl r)]
set_option maxRecDepth 20000 in
theorem dgr2 (s : ByteArray) {a : UInt8} {D : Bs} (hD : D.length ≤ 90000) (B : List Value → AH → Prop) (Q : AExit → List Value → AH → Prop) (hB : B (deV s [] (D ++ [a])) (enH (D ++ [a]))) : once 0 Tryz.prog SD0 [] (deL 2 (((n3 a 0 0) : Nat) : Int)) 900 61 [0, 4, 5] [0] [0, 2, 3, 4] [0] (oneLoop (codeOf Tryz.f146) 3) (deV s ([sq0 (n3 a 0 0), sq1 (n3 a 0 0)]) D) (enH D) B Q := by
  have hX := n3_lt a 0 0
  have hsz : (bl ([sq0 (n3 a 0 0), sq1 (n3 a 0 0)])).size = 2 := by rw [bl_size]; simp
  have hmn : mn4 (bl ([sq0 (n3 a 0 0), sq1 (n3 a 0 0)])) = 2 := by unfold mn4; rw [hsz]; simp
  have hgo : decide (((bl ([sq0 (n3 a 0 0), sq1 (n3 a 0 0)])).size : Int) > 0) = true := decide_eq_true (by rw [hsz]; omega)
  have hcut : (bl ([sq0 (n3 a 0 0), sq1 (n3 a 0 0)])).extract 2 (bl ([sq0 (n3 a 0 0), sq1 (n3 a 0 0)])).size = bl [] := by rw [hsz, bl_cut _ _ _ (by simp)]; simp
  have i0 : ixDe (bl ([sq0 (n3 a 0 0), sq1 (n3 a 0 0)])) 0 = (((n3 a 0 0) / 262144 % 64 : Nat) : Int) := ixI_at (k := 0) (Nat.mod_lt _ (by decide)) rfl
  have i1 : ixDe (bl ([sq0 (n3 a 0 0), sq1 (n3 a 0 0)])) 1 = (((n3 a 0 0) / 4096 % 64 : Nat) : Int) := ixI_at (k := 1) (Nat.mod_lt _ (by decide)) rfl
  have hx : y2 (bl ([sq0 (n3 a 0 0), sq1 (n3 a 0 0)])) = (((n3 a 0 0) : Nat) : Int) := by unfold y2; rw [i0, i1]; exact y2_of a
  have b0 : dbV (((n3 a 0 0) : Nat) : Int) 65536 = u8V a := (dbV_nat (d := 65536) hX (by decide)).trans (by rw [b0_of]; rfl)
  cases D with
  | nil =>
    refine (dn2 _ _ _ B Q).mpr (pick_t hgo ⟨by rw [hmn], rdS_mk (by rw [hsz]; omega) (ibT_mk (pick_f (by rw [i0]; exact decide_eq_false (by omega)) (rdS_mk (by rw [hsz]; omega) (ibT_mk (pick_f (by rw [i1]; exact decide_eq_false (by omega)) (⟨by rw [hx], cutE_mk (by rw [hsz]; omega) ?_⟩))))))⟩)
    rw [b0]
    refine ⟨nnU [a] _ _, ?_⟩
    have e : (2 : Int).toNat = 2 := rfl
    rw [e, Int.toNat_natCast, hcut]
    exact hB
  | cons d D =>
    rw [List.length_cons] at hD
    refine (dr2 _ _ _ _ _ B Q).mpr (pick_t hgo ⟨by rw [hmn], rdS_mk (by rw [hsz]; omega) (ibT_mk (pick_f (by rw [i0]; exact decide_eq_false (by omega)) (rdS_mk (by rw [hsz]; omega) (ibT_mk (pick_f (by rw [i1]; exact decide_eq_false (by omega)) (⟨by rw [hx], ?_⟩))))))⟩)
    rw [b0]
    refine apT_ok (bs := [a]) rfl rfl (by simp) (by simp only [List.length_append, List.length_cons, List.length_nil]; omega) (by simp) (cutE_mk (by rw [hsz]; omega) ?_)
    refine ⟨nnU _ _ _, ?_⟩
    have e : (2 : Int).toNat = 2 := rfl
    rw [e, Int.toNat_natCast, hcut]
    simp only [List.append_assoc, List.cons_append, List.nil_append] at hB ⊢
    exact hB
set_option maxRecDepth 20000 in
theorem dgr3 (s : ByteArray) {a b : UInt8} {D : Bs} (hD : D.length ≤ 90000) (B : List Value → AH → Prop) (Q : AExit → List Value → AH → Prop) (hB : B (deV s [] (D ++ [a, b])) (enH (D ++ [a, b]))) : once 0 Tryz.prog SD0 [] (deL 3 (((n3 a b 0) : Nat) : Int)) 900 61 [0, 4, 5] [0] [0, 2, 3, 4] [0] (oneLoop (codeOf Tryz.f146) 3) (deV s ([sq0 (n3 a b 0), sq1 (n3 a b 0), sq2 (n3 a b 0)]) D) (enH D) B Q := by
  have hX := n3_lt a b 0
  have hsz : (bl ([sq0 (n3 a b 0), sq1 (n3 a b 0), sq2 (n3 a b 0)])).size = 3 := by rw [bl_size]; simp
  have hmn : mn4 (bl ([sq0 (n3 a b 0), sq1 (n3 a b 0), sq2 (n3 a b 0)])) = 3 := by unfold mn4; rw [hsz]; simp
  have hgo : decide (((bl ([sq0 (n3 a b 0), sq1 (n3 a b 0), sq2 (n3 a b 0)])).size : Int) > 0) = true := decide_eq_true (by rw [hsz]; omega)
  have hcut : (bl ([sq0 (n3 a b 0), sq1 (n3 a b 0), sq2 (n3 a b 0)])).extract 3 (bl ([sq0 (n3 a b 0), sq1 (n3 a b 0), sq2 (n3 a b 0)])).size = bl [] := by rw [hsz, bl_cut _ _ _ (by simp)]; simp
  have i0 : ixDe (bl ([sq0 (n3 a b 0), sq1 (n3 a b 0), sq2 (n3 a b 0)])) 0 = (((n3 a b 0) / 262144 % 64 : Nat) : Int) := ixI_at (k := 0) (Nat.mod_lt _ (by decide)) rfl
  have i1 : ixDe (bl ([sq0 (n3 a b 0), sq1 (n3 a b 0), sq2 (n3 a b 0)])) 1 = (((n3 a b 0) / 4096 % 64 : Nat) : Int) := ixI_at (k := 1) (Nat.mod_lt _ (by decide)) rfl
  have i2 : ixDe (bl ([sq0 (n3 a b 0), sq1 (n3 a b 0), sq2 (n3 a b 0)])) 2 = (((n3 a b 0) / 64 % 64 : Nat) : Int) := ixI_at (k := 2) (Nat.mod_lt _ (by decide)) rfl
  have hx : y3 (bl ([sq0 (n3 a b 0), sq1 (n3 a b 0), sq2 (n3 a b 0)])) = (((n3 a b 0) : Nat) : Int) := by unfold y3; rw [i0, i1, i2]; exact y3_of a b
  have b0 : dbV (((n3 a b 0) : Nat) : Int) 65536 = u8V a := (dbV_nat (d := 65536) hX (by decide)).trans (by rw [b0_of]; rfl)
  have b1 : dbV (((n3 a b 0) : Nat) : Int) 256 = u8V b := (dbV_nat (d := 256) hX (by decide)).trans (by rw [b1_of]; rfl)
  cases D with
  | nil =>
    refine (dn3 _ _ _ B Q).mpr (pick_t hgo ⟨by rw [hmn], rdS_mk (by rw [hsz]; omega) (ibT_mk (pick_f (by rw [i0]; exact decide_eq_false (by omega)) (rdS_mk (by rw [hsz]; omega) (ibT_mk (pick_f (by rw [i1]; exact decide_eq_false (by omega)) (rdS_mk (by rw [hsz]; omega) (ibT_mk (pick_f (by rw [i2]; exact decide_eq_false (by omega)) (⟨by rw [hx], cutE_mk (by rw [hsz]; omega) ?_⟩)))))))))⟩)
    rw [b0, b1]
    refine ⟨nnU [a, b] _ _, ?_⟩
    have e : (3 : Int).toNat = 3 := rfl
    rw [e, Int.toNat_natCast, hcut]
    exact hB
  | cons d D =>
    rw [List.length_cons] at hD
    refine (dr3 _ _ _ _ _ B Q).mpr (pick_t hgo ⟨by rw [hmn], rdS_mk (by rw [hsz]; omega) (ibT_mk (pick_f (by rw [i0]; exact decide_eq_false (by omega)) (rdS_mk (by rw [hsz]; omega) (ibT_mk (pick_f (by rw [i1]; exact decide_eq_false (by omega)) (rdS_mk (by rw [hsz]; omega) (ibT_mk (pick_f (by rw [i2]; exact decide_eq_false (by omega)) (⟨by rw [hx], ?_⟩)))))))))⟩)
    rw [b0, b1]
    refine apT_ok (bs := [a]) rfl rfl (by simp) (by simp only [List.length_append, List.length_cons, List.length_nil]; omega) (by simp) (apT_ok (bs := [b]) rfl rfl (by simp) (by simp only [List.length_append, List.length_cons, List.length_nil]; omega) (by simp) (cutE_mk (by rw [hsz]; omega) ?_))
    refine ⟨nnU _ _ _, ?_⟩
    have e : (3 : Int).toNat = 3 := rfl
    rw [e, Int.toNat_natCast, hcut]
    simp only [List.append_assoc, List.cons_append, List.nil_append] at hB ⊢
    exact hB
set_option maxRecDepth 20000 in
theorem dgr4 (s : ByteArray) {a b c : UInt8} {r : Bs} {D : Bs} (hD : D.length ≤ 90000) (hr : r.length ≤ 90000) (B : List Value → AH → Prop) (Q : AExit → List Value → AH → Prop) (hB : B (deV s r (D ++ [a, b, c])) (enH (D ++ [a, b, c]))) : once 0 Tryz.prog SD0 [] (deL 4 (((n3 a b c) : Nat) : Int)) 900 61 [0, 4, 5] [0] [0, 2, 3, 4] [0] (oneLoop (codeOf Tryz.f146) 3) (deV s (sq0 (n3 a b c) :: sq1 (n3 a b c) :: sq2 (n3 a b c) :: sq3 (n3 a b c) :: r) D) (enH D) B Q := by
  have hX := n3_lt a b c
  have hsz : (bl (sq0 (n3 a b c) :: sq1 (n3 a b c) :: sq2 (n3 a b c) :: sq3 (n3 a b c) :: r)).size = r.length + 4 := by rw [bl_size]; simp
  have hmn : mn4 (bl (sq0 (n3 a b c) :: sq1 (n3 a b c) :: sq2 (n3 a b c) :: sq3 (n3 a b c) :: r)) = 4 := by unfold mn4; rw [hsz]; rw [if_neg (by omega)]
  have hgo : decide (((bl (sq0 (n3 a b c) :: sq1 (n3 a b c) :: sq2 (n3 a b c) :: sq3 (n3 a b c) :: r)).size : Int) > 0) = true := decide_eq_true (by rw [hsz]; omega)
  have hcut : (bl (sq0 (n3 a b c) :: sq1 (n3 a b c) :: sq2 (n3 a b c) :: sq3 (n3 a b c) :: r)).extract 4 (bl (sq0 (n3 a b c) :: sq1 (n3 a b c) :: sq2 (n3 a b c) :: sq3 (n3 a b c) :: r)).size = bl r := by rw [hsz, bl_cut _ _ _ (by simp)]; simp
  have i0 : ixDe (bl (sq0 (n3 a b c) :: sq1 (n3 a b c) :: sq2 (n3 a b c) :: sq3 (n3 a b c) :: r)) 0 = (((n3 a b c) / 262144 % 64 : Nat) : Int) := ixI_at (k := 0) (Nat.mod_lt _ (by decide)) rfl
  have i1 : ixDe (bl (sq0 (n3 a b c) :: sq1 (n3 a b c) :: sq2 (n3 a b c) :: sq3 (n3 a b c) :: r)) 1 = (((n3 a b c) / 4096 % 64 : Nat) : Int) := ixI_at (k := 1) (Nat.mod_lt _ (by decide)) rfl
  have i2 : ixDe (bl (sq0 (n3 a b c) :: sq1 (n3 a b c) :: sq2 (n3 a b c) :: sq3 (n3 a b c) :: r)) 2 = (((n3 a b c) / 64 % 64 : Nat) : Int) := ixI_at (k := 2) (Nat.mod_lt _ (by decide)) rfl
  have i3 : ixDe (bl (sq0 (n3 a b c) :: sq1 (n3 a b c) :: sq2 (n3 a b c) :: sq3 (n3 a b c) :: r)) 3 = (((n3 a b c) / 1 % 64 : Nat) : Int) := ixI_at (k := 3) (Nat.mod_lt _ (by decide)) rfl
  have hx : y4 (bl (sq0 (n3 a b c) :: sq1 (n3 a b c) :: sq2 (n3 a b c) :: sq3 (n3 a b c) :: r)) = (((n3 a b c) : Nat) : Int) := by unfold y4; rw [i0, i1, i2, i3]; exact y4_of a b c
  have b0 : dbV (((n3 a b c) : Nat) : Int) 65536 = u8V a := (dbV_nat (d := 65536) hX (by decide)).trans (by rw [b0_of]; rfl)
  have b1 : dbV (((n3 a b c) : Nat) : Int) 256 = u8V b := (dbV_nat (d := 256) hX (by decide)).trans (by rw [b1_of]; rfl)
  have b2 : dbV (((n3 a b c) : Nat) : Int) 1 = u8V c := (dbV_nat (d := 1) hX (by decide)).trans (by rw [Nat.div_one, b2_of]; rfl)
  cases D with
  | nil =>
    refine (dn4 _ _ _ B Q).mpr (pick_t hgo ⟨by rw [hmn], rdS_mk (by rw [hsz]; omega) (ibT_mk (pick_f (by rw [i0]; exact decide_eq_false (by omega)) (rdS_mk (by rw [hsz]; omega) (ibT_mk (pick_f (by rw [i1]; exact decide_eq_false (by omega)) (rdS_mk (by rw [hsz]; omega) (ibT_mk (pick_f (by rw [i2]; exact decide_eq_false (by omega)) (rdS_mk (by rw [hsz]; omega) (ibT_mk (pick_f (by rw [i3]; exact decide_eq_false (by omega)) (⟨by rw [hx], cutE_mk (by rw [hsz]; omega) ?_⟩))))))))))))⟩)
    rw [b0, b1, b2]
    refine ⟨nnU [a, b, c] _ _, ?_⟩
    have e : (4 : Int).toNat = 4 := rfl
    rw [e, Int.toNat_natCast, hcut]
    exact hB
  | cons d D =>
    rw [List.length_cons] at hD
    refine (dr4 _ _ _ _ _ B Q).mpr (pick_t hgo ⟨by rw [hmn], rdS_mk (by rw [hsz]; omega) (ibT_mk (pick_f (by rw [i0]; exact decide_eq_false (by omega)) (rdS_mk (by rw [hsz]; omega) (ibT_mk (pick_f (by rw [i1]; exact decide_eq_false (by omega)) (rdS_mk (by rw [hsz]; omega) (ibT_mk (pick_f (by rw [i2]; exact decide_eq_false (by omega)) (rdS_mk (by rw [hsz]; omega) (ibT_mk (pick_f (by rw [i3]; exact decide_eq_false (by omega)) (⟨by rw [hx], ?_⟩))))))))))))⟩)
    rw [b0, b1, b2]
    refine apT_ok (bs := [a]) rfl rfl (by simp) (by simp only [List.length_append, List.length_cons, List.length_nil]; omega) (by simp) (apT_ok (bs := [b]) rfl rfl (by simp) (by simp only [List.length_append, List.length_cons, List.length_nil]; omega) (by simp) (apT_ok (bs := [c]) rfl rfl (by simp) (by simp only [List.length_append, List.length_cons, List.length_nil]; omega) (by simp) (cutE_mk (by rw [hsz]; omega) ?_)))
    refine ⟨nnU _ _ _, ?_⟩
    have e : (4 : Int).toNat = 4 := rfl
    rw [e, Int.toNat_natCast, hcut]
    simp only [List.append_assoc, List.cons_append, List.nil_append] at hB ⊢
    exact hB
theorem de_end (s : ByteArray) {D : Bs} (B : List Value → AH → Prop) (Q : AExit → List Value → AH → Prop) (hQ : Q (.exit 0) [.string s, anyV, anyV, outE D] (enH D)) : once 0 Tryz.prog SD0 [] (deL 2 0) 900 61 [0, 4, 5] [0] [0, 2, 3, 4] [0] (oneLoop (codeOf Tryz.f146) 3) (deV s [] D) (enH D) B Q := by
  cases D with
  | nil => exact (dn2 _ _ _ B Q).mpr (pick_f (decide_eq_false (by rw [bl_size]; decide)) hQ)
  | cons d D => exact (dr2 _ _ _ _ _ B Q).mpr (pick_f (decide_eq_false (by rw [bl_size]; decide)) ⟨nnU _ _ _, hQ⟩)
theorem de_it (n : Nat) {vals : List Value} {h : AH} {K : AExit → List Value → AH → Prop} (a X : Int) (hx : once 0 Tryz.prog SD0 [] (deL a X) 900 61 [0, 4, 5] [0] [0, 2, 3, 4] [0] (oneLoop (codeOf Tryz.f146) 3) vals h (fun v g => iterE 0 Tryz.prog 61 [0, 4, 5] [0] [0, 2, 3, 4] [0] (oneLoop (codeOf Tryz.f146) 3) n v g K) K) : iterE 0 Tryz.prog 61 [0, 4, 5] [0] [0, 2, 3, 4] [0] (oneLoop (codeOf Tryz.f146) 3) (n + 1) vals h K := ⟨SD0, [], _, _, SD0_ok, deL_ok _ _, hx⟩
theorem de_loop (s : ByteArray) (K : AExit → List Value → AH → Prop) : ∀ (m : Nat) (l D : Bs), l.length ≤ m → D.length + 4 * l.length ≤ 80000 → K (.exit 0) [.string s, anyV, anyV, outE (D ++ l)] (enH (D ++ l)) → iterE 0 Tryz.prog 61 [0, 4, 5] [0] [0, 2, 3, 4] [0] (oneLoop (codeOf Tryz.f146) 3) (m + 1) (deV s (enc l) D) (enH D) K
  | m, [], D, _, _, hK => by
    rw [List.append_nil] at hK
    exact de_it m 2 0 (de_end s _ _ hK)
  | m + 1, [a], D, _, hD, hK => by
    simp only [List.length_cons, List.length_nil] at hD
    exact de_it _ _ _ (dgr2 s (by omega) _ _ (de_loop s K m [] _ (Nat.zero_le _) (by simp; omega) (by rw [List.append_nil]; exact hK)))
  | m + 1, [a, b], D, _, hD, hK => by
    simp only [List.length_cons, List.length_nil] at hD
    exact de_it _ _ _ (dgr3 s (by omega) _ _ (de_loop s K m [] _ (Nat.zero_le _) (by simp; omega) (by rw [List.append_nil]; exact hK)))
  | m + 1, a :: b :: c :: r, D, hl, hD, hK => by
    simp only [List.length_cons] at hD hl
    have := enc_len r
    exact de_it _ _ _ (dgr4 s (by omega) (by omega) _ _ (de_loop s K m r _ (by omega) (by simp; omega) (by simpa using hK)))
  | 0, _ :: _, _, h, _, _ => absurd h (by simp)
noncomputable def SDf (t e : ByteArray) : SC := ⟨idn, spT 55 [.string t] (.string e), true, true⟩
theorem def_ (s t : ByteArray) (cs : List Value) (k : Nat) (C : List Value → AH → Prop) (Q : Value → Prop) : tfn Tryz.prog (SDf t s) [] (hook1 3 (hookLS 0 61 [0, 4, 5] [0] [0, 2, 3, 4] (fun vals h K => C vals h ∧ K (.exit 0) [.string s, anyV, anyV, slB k] (oB cs)))) 900 [] Tryz.f146 [.string s] h0 (fun v _ => Q v) =
    (C [.string s, .slice none 0 0, .string s] h0 ∧ strE cs k fun v => tqU [.string v] [.string t] (bif !(s.toList == s.toList) then Q (.tuple ⟨[.string ⟨#[]⟩, .int .i64 9]⟩) else strE cs k fun v => Q (.tuple ⟨[.string v, .int .i64 0]⟩))) := by kernel_rfl
theorem oneDE : (loopAt (codeOf Tryz.f146) 3).length = 1 := by kernel_rfl
theorem someDE : Tryz.f146.body.isSome = true := by kernel_rfl
theorem de_fn {l : Bs} (hn : l ≠ []) (hl : l.length ≤ 10000) : FnOK 0 Tryz.prog 146 ⟨[.string (bl (enc l))]⟩ h0 (fun v _ => v = .tuple ⟨[strV l, .int .i64 0]⟩) := by
  have hen := en_fn hn (by omega)
  refine FnOK.ttree (spT_ok (xs := [.string (bl l)]) hen rfl rfl).cfg mixed Tryz.func146 someDE (loops_one oneDE ?_) (def_ (bl (enc l)) (bl l) (l.map u8V) l.length (fun vals h => vals = deV (bl (enc l)) (enc l) [] ∧ h = h0) (fun v => v = .tuple ⟨[strV l, .int .i64 0]⟩))
    ⟨⟨rfl, rfl⟩, strE_ok hn (tqU_mk rfl (pick_f (by rw [beq_self_eq_true]; rfl) (strE_ok hn rfl)))⟩
  refine hookE_ok (sameX := [0]) mixed (by decide) ?_
  rintro vals h K ⟨⟨rfl, rfl⟩, hK⟩
  refine ⟨_, de_loop (bl (enc l)) K l.length l [] (Nat.le_refl _) (by simp; omega) ?_⟩
  rw [List.nil_append]
  cases l with
  | nil => exact absurd rfl hn
  | cons e E => exact hK
end Go.Proofs.YtklednomnpghcaaGreatDoor
