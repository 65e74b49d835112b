/-
  Tokens: bytes written with 64 signs.
-/
import Derived.Test.YtklednomnpghcaaGreatDoorByB
/-! Bytes written with 64 signs, and read again: plain laws for RevokedStop. -/
namespace B64Law
def sgn : List UInt8 := [65, 66, 67, 68, 69, 70, 71, 72, 73, 74, 75, 76, 77, 78, 79, 80, 81, 82, 83, 84, 85, 86, 87, 88, 89, 90, 97, 98, 99, 100, 101, 102, 103, 104, 105, 106, 107, 108, 109, 110, 111, 112, 113, 114, 115, 116, 117, 118, 119, 120, 121, 122, 48, 49, 50, 51, 52, 53, 54, 55, 56, 57, 45, 95]
def sg (k : Nat) : UInt8 := sgn.getD k 0
/-- The signs of a number of three bytes. -/
def sq0 (x : Nat) : UInt8 := sg (x / 262144 % 64)
def sq1 (x : Nat) : UInt8 := sg (x / 4096 % 64)
def sq2 (x : Nat) : UInt8 := sg (x / 64 % 64)
def sq3 (x : Nat) : UInt8 := sg (x / 1 % 64)
def n3 (a b c : UInt8) : Nat := (a.toNat * 256 + b.toNat) * 256 + c.toNat
def enc : List UInt8 → List UInt8
  | [] => []
  | [a] => [sq0 (n3 a 0 0), sq1 (n3 a 0 0)]
  | [a, b] => [sq0 (n3 a b 0), sq1 (n3 a b 0), sq2 (n3 a b 0)]
  | a :: b :: c :: r => sq0 (n3 a b c) :: sq1 (n3 a b c) :: sq2 (n3 a b c) :: sq3 (n3 a b c) :: enc r
theorem sg_no : ∀ k < 64, sg k ≠ 46 := by decide +kernel
theorem sgn_no : (46 : UInt8) ∉ sgn := by decide
theorem enc_no : ∀ l : List UInt8, (46 : UInt8) ∉ enc l
  | [] => by simp [enc]
  | [a] => by
    simp only [enc, List.mem_cons, List.not_mem_nil, or_false, not_or]
    exact ⟨fun h => sg_no _ (Nat.mod_lt _ (by decide)) h.symm, fun h => sg_no _ (Nat.mod_lt _ (by decide)) h.symm⟩
  | [a, b] => by
    simp only [enc, List.mem_cons, List.not_mem_nil, or_false, not_or]
    exact ⟨fun h => sg_no _ (Nat.mod_lt _ (by decide)) h.symm, fun h => sg_no _ (Nat.mod_lt _ (by decide)) h.symm, fun h => sg_no _ (Nat.mod_lt _ (by decide)) h.symm⟩
  | a :: b :: c :: r => by
    simp only [enc, List.mem_cons, not_or]
    exact ⟨fun h => sg_no _ (Nat.mod_lt _ (by decide)) h.symm, fun h => sg_no _ (Nat.mod_lt _ (by decide)) h.symm, fun h => sg_no _ (Nat.mod_lt _ (by decide)) h.symm, fun h => sg_no _ (Nat.mod_lt _ (by decide)) h.symm, enc_no r⟩
theorem enc_len : ∀ l : List UInt8, (enc l).length ≤ 4 * l.length
  | [] => Nat.le_refl _
  | [a] => by simp [enc]
  | [a, b] => by simp [enc]
  | a :: b :: c :: r => by
    have := enc_len r
    simp only [enc, List.length_cons]
    omega
theorem enc_ne {l : List UInt8} (h : l ≠ []) : enc l ≠ [] := by
  match l with
  | [a] => simp [enc]
  | [a, b] => simp [enc]
  | a :: b :: c :: r => simp [enc]
/-! reading -/
theorem n3_lt (a b c : UInt8) : n3 a b c < 16777216 := by
  have h1 := a.toNat_lt; have h2 := b.toNat_lt; have h3 := c.toNat_lt
  unfold n3
  omega
/-- The number of four signs. -/
def m4 (i j k l : Nat) : Nat := ((i * 64 + j) * 64 + k) * 64 + l
theorem m4_of (x : Nat) (h : x < 16777216) : m4 (x / 262144 % 64) (x / 4096 % 64) (x / 64 % 64) (x % 64) = x := by
  unfold m4
  omega
theorem b0_of (a b c : UInt8) : n3 a b c / 65536 % 256 = a.toNat := by
  have h1 := a.toNat_lt; have h2 := b.toNat_lt; have h3 := c.toNat_lt
  unfold n3
  omega
theorem b1_of (a b c : UInt8) : n3 a b c / 256 % 256 = b.toNat := by
  have h1 := a.toNat_lt; have h2 := b.toNat_lt; have h3 := c.toNat_lt
  unfold n3
  omega
theorem b2_of (a b c : UInt8) : n3 a b c % 256 = c.toNat := by
  have h1 := a.toNat_lt; have h2 := b.toNat_lt; have h3 := c.toNat_lt
  unfold n3
  omega
/-- The last group: two signs tell one byte, three tell two. -/
theorem m2_of (a : UInt8) : m4 (n3 a 0 0 / 262144 % 64) (n3 a 0 0 / 4096 % 64) 0 0 = n3 a 0 0 := by
  have h1 := a.toNat_lt
  unfold m4 n3
  simp
  omega
theorem m3_of (a b : UInt8) : m4 (n3 a b 0 / 262144 % 64) (n3 a b 0 / 4096 % 64) (n3 a b 0 / 64 % 64) 0 = n3 a b 0 := by
  have h1 := a.toNat_lt; have h2 := b.toNat_lt
  unfold m4 n3
  simp
  omega
/-! bits -/
theorem or_add (a k : Nat) (n : Nat) (h : k < 2 ^ n) : (a * 2 ^ n) ||| k = a * 2 ^ n + k := by
  have := Nat.shiftLeft_add_eq_or_of_lt h a
  rw [Nat.shiftLeft_eq] at this
  exact this.symm
theorem and63 (x : Nat) : x &&& 63 = x % 64 := Nat.and_two_pow_sub_one_eq_mod x 6
end B64Law
namespace Go.Proofs.YtklednomnpghcaaGreatDoor
open Go.Ev Go.RowKit RecLaw PathLaw QueryLaw B64Law

abbrev Bs : Type := List UInt8
noncomputable def SE0 : SC := ⟨idn, fun _ _ _ => none, true, true⟩
theorem SE0_ok : SE0.cfg.OK Tryz.prog := none_ok.cfg
def orI (a b : Int) : Int := IntKind.i64.wrap ((BitVec.ofInt 64 a ||| BitVec.ofInt 64 b).toNat : Int)
def andI (a : Int) : Int := IntKind.i64.wrap ((BitVec.ofInt 64 a &&& BitVec.ofInt 64 63).toNat : Int)
def sgI (X d : Int) : Int := andI (X.fdiv d)
def sgB : ByteArray := ⟨#[65, 66, 67, 68, 69, 70, 71, 72, 73, 74, 75, 76, 77, 78, 79, 80, 81, 82, 83, 84, 85, 86, 87, 88, 89, 90, 97, 98, 99, 100, 101, 102, 103, 104, 105, 106, 107, 108, 109, 110, 111, 112, 113, 114, 115, 116, 117, 118, 119, 120, 121, 122, 48, 49, 50, 51, 52, 53, 54, 55, 56, 57, 45, 95]⟩
noncomputable def inS (X d : Int) : Bool := decide (0 ≤ sgI X d) && decide (sgI X d < (sgB.size : Int))
noncomputable def sg1 (X d : Int) (K : Value → Prop) : Prop := bif inS X d then K (.int .u8 (bT sgB (sgI X d))) else False
noncomputable def rdS (s : ByteArray) (i : Int) (X : Prop) : Prop := bif decide (0 ≤ i) && decide (i < (s.size : Int)) then X else False
noncomputable def cutE (s : ByteArray) (n : Int) (K : ByteArray → Prop) : Prop := bif decide (0 ≤ n) && decide (n ≤ (s.size : Int)) && decide ((s.size : Int) ≤ (s.size : Int)) then K (s.extract n.toNat (s.size : Int).toNat) else False
def shI (a : Int) : Int := IntKind.i64.wrap (a * 256)
def b8 (s : ByteArray) (i : Int) : Int := IntKind.i64.wrap (bT s i)
def x1 (s : ByteArray) : Int := shI (shI (orI 0 (b8 s 0)))
def x2 (s : ByteArray) : Int := shI (orI (shI (orI 0 (b8 s 0))) (b8 s 1))
def x3 (s : ByteArray) : Int := orI (shI (orI (shI (orI 0 (b8 s 0))) (b8 s 1))) (b8 s 2)
def mn3 (s : ByteArray) : Int := if (s.size : Int) < 3 then (s.size : Int) else 3
noncomputable def enL (n : Int) (X : Int) : Hooks := hookOr (ghost1 3 (tellG 50 4 (.int .i64 n))) (ghost1 12 (tellG 50 5 (.int .i64 X)))
theorem enL_ok (n X : Int) : LoopsOK 0 Tryz.prog 50 (enL n X) (oneLoop (codeOf Tryz.f55) 2) := loops_or (ghosts_one (by kernel_rfl) (tellG_ok _ _ _ _ _)) (ghosts_one (by kernel_rfl) (tellG_ok _ _ _ _ _))
def slB (k : Nat) : Value := .slice (some ⟨0, 0, none⟩) k k
def oB (cs : List Value) : AH := ⟨1, 1, [(0, .cells ⟨cs⟩ 5 (0, 0))]⟩
abbrev NNB (cs : List Value) : Prop := NoNames (.cells ⟨cs⟩ 5 (0, 0))
theorem en1 (s : ByteArray) (X : Int) (B : List Value → AH → Prop) (Q : AExit → List Value → AH → Prop) : once 0 Tryz.prog SE0 [] (enL 1 X) 900 50 [0, 3] [0] [3] [0] (oneLoop (codeOf Tryz.f55) 2) [.string s, .slice none 0 0] h0 B Q =
    bif decide ((s.size : Int) > 0) then Value.int .i64 (mn3 s) = .int .i64 1 ∧ rdS s 0 ((Value.int .i64 (x1 s) = .int .i64 X ∧ sg1 X 262144 fun c0 => sg1 X 4096 fun c1 => cutE s 1 fun r => NNB [c0, c1] ∧ B [.string r, slB 2] (oB [c0, c1]))) else Q (.exit 0) [.slice none 0 0] h0 := by kernel_rfl
theorem em1 (s : ByteArray) (X : Int) (cs : List Value) (k : Nat) (B : List Value → AH → Prop) (Q : AExit → List Value → AH → Prop) : once 0 Tryz.prog SE0 [] (enL 1 X) 900 50 [0, 3] [0] [3] [0] (oneLoop (codeOf Tryz.f55) 2) [.string s, slB k] (oB cs) B Q =
    bif decide ((s.size : Int) > 0) then Value.int .i64 (mn3 s) = .int .i64 1 ∧ rdS s 0 ((Value.int .i64 (x1 s) = .int .i64 X ∧ sg1 X 262144 fun c0 => apT cs k 1 [c0] fun cs k => sg1 X 4096 fun c1 => apT cs k 1 [c1] fun cs k => cutE s 1 fun r => NNB cs ∧ B [.string r, slB k] (oB cs))) else NNB cs ∧ Q (.exit 0) [slB k] (oB cs) := by kernel_rfl
theorem en2 (s : ByteArray) (X : Int) (B : List Value → AH → Prop) (Q : AExit → List Value → AH → Prop) : once 0 Tryz.prog SE0 [] (enL 2 X) 900 50 [0, 3] [0] [3] [0] (oneLoop (codeOf Tryz.f55) 2) [.string s, .slice none 0 0] h0 B Q =
    bif decide ((s.size : Int) > 0) then Value.int .i64 (mn3 s) = .int .i64 2 ∧ rdS s 0 (rdS s 1 ((Value.int .i64 (x2 s) = .int .i64 X ∧ sg1 X 262144 fun c0 => sg1 X 4096 fun c1 => sg1 X 64 fun c2 => cutE s 2 fun r => NNB [c0, c1, c2] ∧ B [.string r, slB 3] (oB [c0, c1, c2])))) else Q (.exit 0) [.slice none 0 0] h0 := by kernel_rfl
theorem em2 (s : ByteArray) (X : Int) (cs : List Value) (k : Nat) (B : List Value → AH → Prop) (Q : AExit → List Value → AH → Prop) : once 0 Tryz.prog SE0 [] (enL 2 X) 900 50 [0, 3] [0] [3] [0] (oneLoop (codeOf Tryz.f55) 2) [.string s, slB k] (oB cs) B Q =
    bif decide ((s.size : Int) > 0) then Value.int .i64 (mn3 s) = .int .i64 2 ∧ rdS s 0 (rdS s 1 ((Value.int .i64 (x2 s) = .int .i64 X ∧ sg1 X 262144 fun c0 => apT cs k 1 [c0] fun cs k => sg1 X 4096 fun c1 => apT cs k 1 [c1] fun cs k => sg1 X 64 fun c2 => apT cs k 1 [c2] fun cs k => cutE s 2 fun r => NNB cs ∧ B [.string r, slB k] (oB cs)))) else NNB cs ∧ Q (.exit 0) [slB k] (oB cs) := by kernel_rfl
theorem en3 (s : ByteArray) (X : Int) (B : List Value → AH → Prop) (Q : AExit → List Value → AH → Prop) : once 0 Tryz.prog SE0 [] (enL 3 X) 900 50 [0, 3] [0] [3] [0] (oneLoop (codeOf Tryz.f55) 2) [.string s, .slice none 0 0] h0 B Q =
    bif decide ((s.size : Int) > 0) then Value.int .i64 (mn3 s) = .int .i64 3 ∧ rdS s 0 (rdS s 1 (rdS s 2 ((Value.int .i64 (x3 s) = .int .i64 X ∧ sg1 X 262144 fun c0 => sg1 X 4096 fun c1 => sg1 X 64 fun c2 => sg1 X 1 fun c3 => cutE s 3 fun r => NNB [c0, c1, c2, c3] ∧ B [.string r, slB 4] (oB [c0, c1, c2, c3]))))) else Q (.exit 0) [.slice none 0 0] h0 := by kernel_rfl
theorem em3 (s : ByteArray) (X : Int) (cs : List Value) (k : Nat) (B : List Value → AH → Prop) (Q : AExit → List Value → AH → Prop) : once 0 Tryz.prog SE0 [] (enL 3 X) 900 50 [0, 3] [0] [3] [0] (oneLoop (codeOf Tryz.f55) 2) [.string s, slB k] (oB cs) B Q =
    bif decide ((s.size : Int) > 0) then Value.int .i64 (mn3 s) = .int .i64 3 ∧ rdS s 0 (rdS s 1 (rdS s 2 ((Value.int .i64 (x3 s) = .int .i64 X ∧ sg1 X 262144 fun c0 => apT cs k 1 [c0] fun cs k => sg1 X 4096 fun c1 => apT cs k 1 [c1] fun cs k => sg1 X 64 fun c2 => apT cs k 1 [c2] fun cs k => sg1 X 1 fun c3 => apT cs k 1 [c3] fun cs k => cutE s 3 fun r => NNB cs ∧ B [.string r, slB k] (oB cs))))) else NNB cs ∧ Q (.exit 0) [slB k] (oB cs) := by kernel_rfl

/-! numbers -/
theorem wrap_nat {n : Nat} (h : n < 4611686018427387904) : IntKind.i64.wrap (n : Int) = (n : Int) := wrap_id _ (by omega) (by omega)
theorem ofInt_nat (n : Nat) : BitVec.ofInt 64 (n : Int) = BitVec.ofNat 64 n := by simp
theorem orI_nat {a k : Nat} (hk : k < 256) (ha : a < 16777216) : orI ((a * 256 : Nat) : Int) (k : Int) = ((a * 256 + k : Nat) : Int) := by
  unfold orI
  rw [ofInt_nat, ofInt_nat, BitVec.toNat_or, BitVec.toNat_ofNat, BitVec.toNat_ofNat, Nat.mod_eq_of_lt (by omega), Nat.mod_eq_of_lt (by omega)]
  have := or_add a k 8 hk
  rw [show (2 : Nat) ^ 8 = 256 from rfl] at this
  rw [this, wrap_nat (by omega)]
theorem andI_nat {x : Nat} (hx : x < 1099511627776) : andI (x : Int) = ((x % 64 : Nat) : Int) := by
  unfold andI
  rw [show BitVec.ofInt 64 63 = BitVec.ofNat 64 63 from rfl, ofInt_nat, BitVec.toNat_and, BitVec.toNat_ofNat, BitVec.toNat_ofNat, Nat.mod_eq_of_lt (by omega), Nat.mod_eq_of_lt (by omega), and63, wrap_nat (by omega)]
theorem sgI_nat {x d : Nat} (hx : x < 16777216) : sgI (x : Int) (d : Int) = ((x / d % 64 : Nat) : Int) := by
  unfold sgI
  rw [← Int.ofNat_fdiv, andI_nat (Nat.lt_of_le_of_lt (Nat.div_le_self _ _) (by omega))]
theorem sgB_list : sgB.data.toList = sgn := rfl
theorem sg1_ok {x : Nat} (hx : x < 16777216) (d : Nat) (hd : 0 < d) {K : Value → Prop} (hK : K (u8V (sg (x / d % 64)))) : sg1 (x : Int) (d : Int) K := by
  have hm : x / d % 64 < 64 := Nat.mod_lt _ (by decide)
  unfold sg1 inS
  rw [sgI_nat hx]
  refine need_mk ?_ hK
  rw [show (sgB.size : Int) = 64 from rfl, Bool.and_eq_true, decide_eq_true_eq, decide_eq_true_eq]
  omega
theorem rdS_mk {s : ByteArray} {i : Int} (h : 0 ≤ i ∧ i < (s.size : Int)) {X : Prop} (hX : X) : rdS s i X := need_mk (by rw [decide_eq_true h.1, decide_eq_true h.2]; rfl) hX
theorem cutE_mk {s : ByteArray} {n : Int} (h : 0 ≤ n ∧ n ≤ (s.size : Int)) {K : ByteArray → Prop} (hK : K (s.extract n.toNat (s.size : Int).toNat)) : cutE s n K := need_mk (by rw [decide_eq_true h.1, decide_eq_true h.2, decide_eq_true (Int.le_refl _)]; rfl) hK
theorem b8_at {l : Bs} {k : Nat} {c : UInt8} (h : l[k]? = some c) : b8 (bl l) (k : Int) = (c.toNat : Int) := by
  have := bT_at (pre := []) (l := l) k h
  rw [List.nil_append, List.length_nil, Nat.zero_add] at this
  unfold b8
  rw [this, wrap_nat (by have := c.toNat_lt; omega)]
theorem sh_nat {a : Nat} (h : a < 16777216) : shI (a : Int) = ((a * 256 : Nat) : Int) := by
  unfold shI
  rw [show ((a : Int) * 256) = ((a * 256 : Nat) : Int) by omega, wrap_nat (by omega)]
theorem or0 (c : UInt8) : orI 0 (c.toNat : Int) = (c.toNat : Int) := by
  have := orI_nat (a := 0) (k := c.toNat) c.toNat_lt (by decide)
  simpa using this
theorem x1_of (a : UInt8) : x1 (bl [a]) = ((n3 a 0 0 : Nat) : Int) := by
  have h1 := a.toNat_lt
  have e0 : b8 (bl [a]) 0 = (a.toNat : Int) := b8_at (k := 0) rfl
  unfold x1
  rw [e0, or0, sh_nat (by omega), sh_nat (by omega)]
  unfold n3
  simp
theorem x2_of (a b : UInt8) : x2 (bl [a, b]) = ((n3 a b 0 : Nat) : Int) := by
  have h1 := a.toNat_lt; have h2 := b.toNat_lt
  have e0 : b8 (bl [a, b]) 0 = (a.toNat : Int) := b8_at (k := 0) rfl
  have e1 : b8 (bl [a, b]) 1 = (b.toNat : Int) := b8_at (k := 1) rfl
  unfold x2
  rw [e0, e1, or0, sh_nat (by omega), orI_nat h2 (by omega), sh_nat (by omega)]
  unfold n3
  simp
theorem x3_of (a b c : UInt8) (r : Bs) : x3 (bl (a :: b :: c :: r)) = ((n3 a b c : Nat) : Int) := by
  have h1 := a.toNat_lt; have h2 := b.toNat_lt; have h3 := c.toNat_lt
  have e0 : b8 (bl (a :: b :: c :: r)) 0 = (a.toNat : Int) := b8_at (k := 0) rfl
  have e1 : b8 (bl (a :: b :: c :: r)) 1 = (b.toNat : Int) := b8_at (k := 1) rfl
  have e2 : b8 (bl (a :: b :: c :: r)) 2 = (c.toNat : Int) := b8_at (k := 2) rfl
  unfold x3
  rw [e0, e1, e2, or0, sh_nat (by omega), orI_nat h2 (by omega), sh_nat (by omega), orI_nat h3 (by omega)]
  rfl

/-! the loop -/
def outE : Bs → Value
  | [] => .slice none 0 0
  | d :: D => slB (d :: D).length
def enV (l D : Bs) : List Value := [.string (bl l), outE D]
def enH : Bs → AH
  | [] => h0
  | d :: D => oB ((d :: D).map u8V)
theorem grp1 {a : UInt8} {D : Bs} (hD : D.length ≤ 90000) (B : List Value → AH → Prop) (Q : AExit → List Value → AH → Prop) (hB : B (enV [] (D ++ [sq0 (n3 a 0 0), sq1 (n3 a 0 0)])) (enH (D ++ [sq0 (n3 a 0 0), sq1 (n3 a 0 0)]))) : once 0 Tryz.prog SE0 [] (enL 1 (((n3 a 0 0) : Nat) : Int)) 900 50 [0, 3] [0] [3] [0] (oneLoop (codeOf Tryz.f55) 2) (enV ([a]) D) (enH D) B Q := by
  have hX := n3_lt a 0 0
  have hsz : (bl ([a])).size = 1 := by rw [bl_size]; simp
  have hmn : mn3 (bl ([a])) = 1 := by unfold mn3; rw [hsz]; simp
  have hgo : decide (((bl ([a])).size : Int) > 0) = true := decide_eq_true (by rw [hsz]; omega)
  have hcut : (bl ([a])).extract 1 (bl ([a])).size = bl [] := by rw [hsz, bl_cut _ _ _ (by simp)]; simp
  have hx := x1_of a
  cases D with
  | nil =>
    refine (en1 _ _ B Q).mpr (pick_t hgo ⟨by rw [hmn], (rdS_mk (by rw [hsz]; omega) ⟨by rw [hx], (sg1_ok hX 262144 (by decide) (sg1_ok hX 4096 (by decide) (cutE_mk (by rw [hsz]; omega) ?_)))⟩)⟩)
    refine ⟨nnU [sq0 (n3 a 0 0), sq1 (n3 a 0 0)] _ _, ?_⟩
    have e : (1 : Int).toNat = 1 := rfl
    rw [e, Int.toNat_natCast, hcut]
    exact hB
  | cons d D =>
    rw [List.length_cons] at hD
    refine (em1 _ _ _ _ B Q).mpr (pick_t hgo ⟨by rw [hmn], (rdS_mk (by rw [hsz]; omega) ⟨by rw [hx], (sg1_ok hX 262144 (by decide) (apT_ok (bs := [sq0 (n3 a 0 0)]) rfl rfl (by simp) (by simp only [List.length_append, List.length_cons, List.length_nil]; omega) (by simp) (sg1_ok hX 4096 (by decide) (apT_ok (bs := [sq1 (n3 a 0 0)]) rfl rfl (by simp) (by simp only [List.length_append, List.length_cons, List.length_nil]; omega) (by simp) (cutE_mk (by rw [hsz]; omega) ?_)))))⟩)⟩)
    refine ⟨nnU _ _ _, ?_⟩
    have e : (1 : Int).toNat = 1 := rfl
    rw [e, Int.toNat_natCast, hcut]
    simp only [List.append_assoc, List.cons_append, List.nil_append] at hB ⊢
    exact hB
theorem grp2 {a b : UInt8} {D : Bs} (hD : D.length ≤ 90000) (B : List Value → AH → Prop) (Q : AExit → List Value → AH → Prop) (hB : B (enV [] (D ++ [sq0 (n3 a b 0), sq1 (n3 a b 0), sq2 (n3 a b 0)])) (enH (D ++ [sq0 (n3 a b 0), sq1 (n3 a b 0), sq2 (n3 a b 0)]))) : once 0 Tryz.prog SE0 [] (enL 2 (((n3 a b 0) : Nat) : Int)) 900 50 [0, 3] [0] [3] [0] (oneLoop (codeOf Tryz.f55) 2) (enV ([a, b]) D) (enH D) B Q := by
  have hX := n3_lt a b 0
  have hsz : (bl ([a, b])).size = 2 := by rw [bl_size]; simp
  have hmn : mn3 (bl ([a, b])) = 2 := by unfold mn3; rw [hsz]; simp
  have hgo : decide (((bl ([a, b])).size : Int) > 0) = true := decide_eq_true (by rw [hsz]; omega)
  have hcut : (bl ([a, b])).extract 2 (bl ([a, b])).size = bl [] := by rw [hsz, bl_cut _ _ _ (by simp)]; simp
  have hx := x2_of a b
  cases D with
  | nil =>
    refine (en2 _ _ B Q).mpr (pick_t hgo ⟨by rw [hmn], (rdS_mk (by rw [hsz]; omega) (rdS_mk (by rw [hsz]; omega) ⟨by rw [hx], (sg1_ok hX 262144 (by decide) (sg1_ok hX 4096 (by decide) (sg1_ok hX 64 (by decide) (cutE_mk (by rw [hsz]; omega) ?_))))⟩))⟩)
    refine ⟨nnU [sq0 (n3 a b 0), sq1 (n3 a b 0), sq2 (n3 a b 0)] _ _, ?_⟩
    have e : (2 : Int).toNat = 2 := rfl
    rw [e, Int.toNat_natCast, hcut]
    exact hB
  | cons d D =>
    rw [List.length_cons] at hD
    refine (em2 _ _ _ _ B Q).mpr (pick_t hgo ⟨by rw [hmn], (rdS_mk (by rw [hsz]; omega) (rdS_mk (by rw [hsz]; omega) ⟨by rw [hx], (sg1_ok hX 262144 (by decide) (apT_ok (bs := [sq0 (n3 a b 0)]) rfl rfl (by simp) (by simp only [List.length_append, List.length_cons, List.length_nil]; omega) (by simp) (sg1_ok hX 4096 (by decide) (apT_ok (bs := [sq1 (n3 a b 0)]) rfl rfl (by simp) (by simp only [List.length_append, List.length_cons, List.length_nil]; omega) (by simp) (sg1_ok hX 64 (by decide) (apT_ok (bs := [sq2 (n3 a b 0)]) rfl rfl (by simp) (by simp only [List.length_append, List.length_cons, List.length_nil]; omega) (by simp) (cutE_mk (by rw [hsz]; omega) ?_)))))))⟩))⟩)
    refine ⟨nnU _ _ _, ?_⟩
    have e : (2 : Int).toNat = 2 := rfl
    rw [e, Int.toNat_natCast, hcut]
    simp only [List.append_assoc, List.cons_append, List.nil_append] at hB ⊢
    exact hB
theorem grp3 {a b c : UInt8} {r : Bs} {D : Bs} (hD : D.length ≤ 90000) (hr : r.length ≤ 90000) (B : List Value → AH → Prop) (Q : AExit → List Value → AH → Prop) (hB : B (enV r (D ++ [sq0 (n3 a b c), sq1 (n3 a b c), sq2 (n3 a b c), sq3 (n3 a b c)])) (enH (D ++ [sq0 (n3 a b c), sq1 (n3 a b c), sq2 (n3 a b c), sq3 (n3 a b c)]))) : once 0 Tryz.prog SE0 [] (enL 3 (((n3 a b c) : Nat) : Int)) 900 50 [0, 3] [0] [3] [0] (oneLoop (codeOf Tryz.f55) 2) (enV (a :: b :: c :: r) D) (enH D) B Q := by
  have hX := n3_lt a b c
  have hsz : (bl (a :: b :: c :: r)).size = r.length + 3 := by rw [bl_size]; simp
  have hmn : mn3 (bl (a :: b :: c :: r)) = 3 := by unfold mn3; rw [hsz]; rw [if_neg (by omega)]
  have hgo : decide (((bl (a :: b :: c :: r)).size : Int) > 0) = true := decide_eq_true (by rw [hsz]; omega)
  have hcut : (bl (a :: b :: c :: r)).extract 3 (bl (a :: b :: c :: r)).size = bl r := by rw [hsz, bl_cut _ _ _ (by simp)]; simp
  have hx := x3_of a b c r
  cases D with
  | nil =>
    refine (en3 _ _ B Q).mpr (pick_t hgo ⟨by rw [hmn], (rdS_mk (by rw [hsz]; omega) (rdS_mk (by rw [hsz]; omega) (rdS_mk (by rw [hsz]; omega) ⟨by rw [hx], (sg1_ok hX 262144 (by decide) (sg1_ok hX 4096 (by decide) (sg1_ok hX 64 (by decide) (sg1_ok hX 1 (by decide) (cutE_mk (by rw [hsz]; omega) ?_)))))⟩)))⟩)
    refine ⟨nnU [sq0 (n3 a b c), sq1 (n3 a b c), sq2 (n3 a b c), sq3 (n3 a b c)] _ _, ?_⟩
    have e : (3 : Int).toNat = 3 := rfl
    rw [e, Int.toNat_natCast, hcut]
    exact hB
  | cons d D =>
    rw [List.length_cons] at hD
    refine (em3 _ _ _ _ B Q).mpr (pick_t hgo ⟨by rw [hmn], (rdS_mk (by rw [hsz]; omega) (rdS_mk (by rw [hsz]; omega) (rdS_mk (by rw [hsz]; omega) ⟨by rw [hx], (sg1_ok hX 262144 (by decide) (apT_ok (bs := [sq0 (n3 a b c)]) rfl rfl (by simp) (by simp only [List.length_append, List.length_cons, List.length_nil]; omega) (by simp) (sg1_ok hX 4096 (by decide) (apT_ok (bs := [sq1 (n3 a b c)]) rfl rfl (by simp) (by simp only [List.length_append, List.length_cons, List.length_nil]; omega) (by simp) (sg1_ok hX 64 (by decide) (apT_ok (bs := [sq2 (n3 a b c)]) rfl rfl (by simp) (by simp only [List.length_append, List.length_cons, List.length_nil]; omega) (by simp) (sg1_ok hX 1 (by decide) (apT_ok (bs := [sq3 (n3 a b c)]) rfl rfl (by simp) (by simp only [List.length_append, List.length_cons, List.length_nil]; omega) (by simp) (cutE_mk (by rw [hsz]; omega) ?_)))))))))⟩)))⟩)
    refine ⟨nnU _ _ _, ?_⟩
    have e : (3 : Int).toNat = 3 := rfl
    rw [e, Int.toNat_natCast, hcut]
    simp only [List.append_assoc, List.cons_append, List.nil_append] at hB ⊢
    exact hB
theorem en_end {D : Bs} (B : List Value → AH → Prop) (Q : AExit → List Value → AH → Prop) (hQ : Q (.exit 0) [outE D] (enH D)) : once 0 Tryz.prog SE0 [] (enL 1 0) 900 50 [0, 3] [0] [3] [0] (oneLoop (codeOf Tryz.f55) 2) (enV [] D) (enH D) B Q := by
  cases D with
  | nil => exact (en1 _ _ B Q).mpr (pick_f (decide_eq_false (by rw [bl_size]; decide)) hQ)
  | cons d D => exact (em1 _ _ _ _ B Q).mpr (pick_f (decide_eq_false (by rw [bl_size]; decide)) ⟨nnU _ _ _, hQ⟩)
theorem en_it (n : Nat) {vals : List Value} {h : AH} {K : AExit → List Value → AH → Prop} (a X : Int) (hx : once 0 Tryz.prog SE0 [] (enL a X) 900 50 [0, 3] [0] [3] [0] (oneLoop (codeOf Tryz.f55) 2) vals h (fun v g => iterE 0 Tryz.prog 50 [0, 3] [0] [3] [0] (oneLoop (codeOf Tryz.f55) 2) n v g K) K) : iterE 0 Tryz.prog 50 [0, 3] [0] [3] [0] (oneLoop (codeOf Tryz.f55) 2) (n + 1) vals h K := ⟨SE0, [], _, _, SE0_ok, enL_ok _ _, hx⟩
theorem en_loop (K : AExit → List Value → AH → Prop) : ∀ (m : Nat) (l D : Bs), l.length ≤ m → D.length + 4 * l.length ≤ 90000 → K (.exit 0) [outE (D ++ enc l)] (enH (D ++ enc l)) → iterE 0 Tryz.prog 50 [0, 3] [0] [3] [0] (oneLoop (codeOf Tryz.f55) 2) (m + 1) (enV l D) (enH D) K
  | m, [], D, _, _, hK => by
    rw [enc, List.append_nil] at hK
    exact en_it m 1 0 (en_end _ _ hK)
  | m + 1, [a], D, _, hD, hK => by
    simp only [List.length_cons, List.length_nil] at hD
    refine en_it _ _ _ (grp1 (by omega) _ _ ?_)
    exact en_loop K m [] _ (Nat.zero_le _) (by simp; omega) (by rw [enc, List.append_nil]; exact hK)
  | m + 1, [a, b], D, _, hD, hK => by
    simp only [List.length_cons, List.length_nil] at hD
    refine en_it _ _ _ (grp2 (by omega) _ _ ?_)
    exact en_loop K m [] _ (Nat.zero_le _) (by simp; omega) (by rw [enc, List.append_nil]; exact hK)
  | m + 1, a :: b :: c :: r, D, hl, hD, hK => by
    simp only [List.length_cons] at hD hl
    refine en_it _ _ _ (grp3 (by omega) (by omega) _ _ ?_)
    refine en_loop K m r _ (by omega) (by simp; omega) ?_
    rw [enc] at hK
    simpa using hK
  | 0, _ :: _, _, h, _, _ => absurd h (by simp)
noncomputable def strE (cs : List Value) (k : Nat) (K : ByteArray → Prop) : Prop := bif Nat.ble 1 k && Nat.ble (0 + k) (Array.mk cs).size && (List.take k (List.drop 0 (Array.mk cs).toList)).all isByte then K ⟨⟨List.map toByte (List.take k (List.drop 0 (Array.mk cs).toList))⟩⟩ else False
theorem enf (s : ByteArray) (cs : List Value) (k : Nat) (C : List Value → AH → Prop) (Q : Value → Prop) : tfn Tryz.prog SE0 [] (hook1 2 (hookLS 0 50 [0, 3] [0] [3] (fun vals h K => C vals h ∧ K (.exit 0) [slB k] (oB cs)))) 900 [] Tryz.f55 [.string s] h0 (fun v _ => Q v) =
    (C [.string s, .slice none 0 0] h0 ∧ strE cs k fun v => Q (.string v)) := by kernel_rfl
theorem oneEN : (loopAt (codeOf Tryz.f55) 2).length = 1 := by kernel_rfl
theorem someEN : Tryz.f55.body.isSome = true := by kernel_rfl
theorem strE_ok {r : Bs} (hr : r ≠ []) {K : ByteArray → Prop} (hK : K (bl r)) : strE (r.map u8V) r.length K := by
  have hp := List.length_pos_iff.2 hr
  have e : List.take r.length (List.drop 0 (Array.mk (r.map u8V)).toList) = r.map u8V := by
    rw [List.drop_zero]
    exact List.take_of_length_le (by show (r.map u8V).length ≤ _; rw [List.length_map]; exact Nat.le_refl _)
  unfold strE
  rw [e, u8_byte, u8_back]
  refine need_mk ?_ hK
  rw [Nat.ble_eq_true_of_le hp, Nat.ble_eq_true_of_le (show 0 + r.length ≤ (Array.mk (r.map u8V)).size by show _ ≤ (r.map u8V).length; rw [List.length_map]; omega)]
  rfl
theorem en_fn {l : Bs} (hn : l ≠ []) (hl : l.length ≤ 20000) : FnOK 0 Tryz.prog 55 ⟨[.string (bl l)]⟩ h0 (fun v _ => v = .string (bl (enc l))) := by
  have he := enc_ne hn
  have hlen := enc_len l
  refine FnOK.ttree SE0_ok mixed Tryz.func55 someEN (loops_one oneEN ?_) (enf (bl l) ((enc l).map u8V) (enc l).length (fun vals h => vals = enV l [] ∧ h = h0) (fun v => v = .string (bl (enc l)))) ⟨⟨rfl, rfl⟩, strE_ok he rfl⟩
  refine hookE_ok (sameX := [0]) mixed (by decide) ?_
  rintro vals h K ⟨⟨rfl, rfl⟩, hK⟩
  refine ⟨_, en_loop K l.length l [] (Nat.le_refl _) (by simp; omega) ?_⟩
  rw [List.nil_append]
  cases hE : enc l with
  | nil => exact absurd hE he
  | cons e E => rw [hE] at hK; exact hK
end Go.Proofs.YtklednomnpghcaaGreatDoor
