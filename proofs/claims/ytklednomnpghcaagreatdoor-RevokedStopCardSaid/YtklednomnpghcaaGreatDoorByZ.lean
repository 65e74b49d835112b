/-
  The number of digits: from the shelf.
-/
import Derived.Shelf.Strconv.Itoa1
import Derived.Ground.Names2Prog
import Derived.Ground.SlgnProg
import Derived.Ground.NamesProg
import Derived.Test.YtklednomnpghcaaGreatDoorRvB
namespace Go.Proofs
open Go.RowKit Go.Lib
def Tryz.laysM284_ren : Go.Shelf.Ren := ⟨fun | 129 => 159 | 284 => 186 | 317 => 228 | 318 => 229 | n => n, fun | 0 => 0 | 3 => 3 | 4 => 4 | 5 => 5 | 9 => 9 | 46 => 124 | 53 => 156 | 212 => 259 | n => n, fun | 17 => 1 | n => n⟩
theorem Tryz.laysM284 : Go.Proofs.LaysM.n284 Tryz.prog Tryz.laysM284_ren := {
  mixed := by kernel_rfl
  f129 := Tryz.func159.trans (congrArg some (by kernel_rfl))
  f284 := Tryz.func186.trans (congrArg some (by kernel_rfl))
  f317 := Tryz.func228.trans (congrArg some (by kernel_rfl))
  f318 := Tryz.func229.trans (congrArg some (by kernel_rfl))
  t0 := Tryz.underlying0
  a0 := Tryz.isAgg0
  z0 := Tryz.sizeOf0
  v0 := Tryz.zeroValue0
  t3 := Tryz.underlying3
  a3 := Tryz.isAgg3
  z3 := Tryz.sizeOf3
  v3 := Tryz.zeroValue3
  t4 := Tryz.underlying4
  a4 := Tryz.isAgg4
  z4 := Tryz.sizeOf4
  v4 := Tryz.zeroValue4
  t5 := Tryz.underlying5
  a5 := Tryz.isAgg5
  z5 := Tryz.sizeOf5
  v5 := Tryz.zeroValue5
  t9 := Tryz.underlying9
  a9 := Tryz.isAgg9
  z9 := Tryz.sizeOf9
  v9 := Tryz.zeroValue9
  t46 := Tryz.underlying124
  a46 := Tryz.isAgg124
  z46 := Tryz.sizeOf124
  v46 := Tryz.zeroValue124
  t53 := Tryz.underlying156
  a53 := Tryz.isAgg156
  z53 := Tryz.sizeOf156
  v53 := Tryz.zeroValue156
  t212 := Tryz.underlying259
  a212 := Tryz.isAgg259
  z212 := Tryz.sizeOf259
  v212 := Tryz.zeroValue259
  g17 := by kernel_rfl
  i0 := by kernel_rfl
  i3 := by kernel_rfl
  i4 := by kernel_rfl
  i5 := by kernel_rfl
  i9 := by kernel_rfl
  i46 := by kernel_rfl
  i53 := by kernel_rfl
  i212 := by kernel_rfl
  m17 := by kernel_rfl }
theorem Tryz.numDigits (u : Nat) (h1 : 1 ≤ u) (h2 : u < 18446744073709551616) (w : World) (htab : Lib.TabIs Tryz.prog w "internal/strconv.uint64pow10" .u64 Lib.pow10Tab) :
    Calls Tryz.prog 186 #[.int .u64 u] w fun e w' => e = .returned (.int .i64 (Lib.nDigits u)) ∧ w' = w := Any.internal_strconv_numDigits Tryz.laysM284 u h1 h2 w htab
end Go.Proofs
namespace Go.Proofs.YtklednomnpghcaaGreatDoor
open Go.Ev Go.RowKit RecLaw PathLaw QueryLaw
theorem tab_is {w : World} (h : TabsIn Tryz.prog w) {b : Nat} (hb : Tryz.prog.globalNamed "internal/strconv.uint64pow10" = some b) : Lib.TabIs Tryz.prog w "internal/strconv.uint64pow10" .u64 Lib.pow10Tab := by
  obtain ⟨t, fr, q⟩ := h.1 b _ ⟨_, .head _, hb⟩
  unfold Lib.TabIs World.var?
  rw [hb]
  show (match w.heap[b]? with
    | some (.cells cs _ _) => some cs
    | _ => none) = _
  rw [q]
  rfl
theorem tabG : (Tryz.prog.globalNamed "internal/strconv.uint64pow10").isSome = true := by kernel_rfl
noncomputable def spNg (f : FuncId) (args : Array Value) (h : AH) : Option (Bool × Value × AH) :=
  cond (Nat.beq f 186) (match args with
    | ⟨[.int .u64 n]⟩ => some (decide (1 ≤ n) && decide (n ≤ 1000000), .int .i64 (Lib.nDigits n.toNat), h)
    | _ => none) none
theorem spNg_ok : SpOK spNg := by
  intro f args h v h' hs
  unfold spNg at hs
  obtain ⟨hf, hs2⟩ := cond_some hs
  clear hs
  have := Nat.eq_of_beq_eq_true hf
  subst this
  split at hs2
  · injection hs2 with hs
    injection hs with hb hs
    injection hs with hv hh
    subst hv hh
    rename_i n
    simp only [Bool.and_eq_true, decide_eq_true_eq] at hb
    obtain ⟨k, rfl⟩ : ∃ k : Nat, n = (k : Int) := ⟨n.toNat, (Int.toNat_of_nonneg (by omega)).symm⟩
    rw [Int.toNat_natCast]
    obtain ⟨b, hg⟩ := Option.isSome_iff_exists.1 tabG
    refine ⟨flat_callT (args := [.int .u64 (k : Int)]) rfl rfl fun w hT => ?_, Nat.le_refl _⟩
    exact (Tryz.numDigits k (by omega) (by omega) w (tab_is hT hg)).mono fun e w' ⟨h1, h2⟩ => ⟨h1, h2 ▸ Below.refl _ _⟩
  · cases hs2
end Go.Proofs.YtklednomnpghcaaGreatDoor
