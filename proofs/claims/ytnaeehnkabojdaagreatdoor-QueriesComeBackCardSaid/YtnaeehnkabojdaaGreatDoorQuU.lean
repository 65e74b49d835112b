/-
  Paths: ParseUint at two digits.
-/
import Derived.Test.YtnaeehnkabojdaaGreatDoorQuT
namespace Go.Proofs.YtnaeehnkabojdaaGreatDoor
open Go.Ev Go.RowKit RecLaw PathLaw

def hexL : List UInt8 := [48, 49, 50, 51, 52, 53, 54, 55, 56, 57, 65, 66, 67, 68, 69, 70, 97, 98, 99, 100, 101, 102]
/-- A function that is never asked. -/
def spNo (f : FuncId) (args : Array Value) (h : AH) : Option (Bool × Value × AH) := cond (Nat.beq f 203) (some (false, undef, h)) none
theorem spNo_ok : SpOK spNo := by
  intro f args h v h' hs
  unfold spNo at hs
  obtain ⟨_, hs2⟩ := cond_some hs
  injection hs2 with hs
  injection hs with hb hs
  cases hb
def ST1 : SC := ⟨idn, spNo, false, false⟩
theorem ST1_ok : ST1.cfg.OK Tryz.prog := spNo_ok.cfg
/-! A digit -/
noncomputable def dg2 (v : Int) (K : Int → Prop) : Prop := bif decide (v ≥ 16) then False else K v
noncomputable def lw8 (c : UInt8) : Int := IntKind.u8.wrap ((BitVec.ofInt 8 (c.toNat : Int) ||| BitVec.ofInt 8 32).toNat : Int)
noncomputable def dgL (c : UInt8) (K : Int → Prop) : Prop := bif decide (97 ≤ lw8 c) then bif decide (lw8 c ≤ 122) then dg2 (IntKind.u8.wrap (IntKind.u8.wrap (lw8 c - 97) + 10)) K else False else False
noncomputable def dg1 (c : UInt8) (K : Int → Prop) : Prop := bif decide (48 ≤ (c.toNat : Int)) then bif decide ((c.toNat : Int) ≤ 57) then dg2 (IntKind.u8.wrap ((c.toNat : Int) - 48)) K else dgL c K else dgL c K
noncomputable def dgT (c : UInt8) (K : Int → Prop) : Prop := bif (c.toNat : Int) == 95 then dg1 c K else dg1 c K
def w64 (n : Int) : Int := IntKind.u64.wrap n
theorem pu (a b : UInt8) (Q : Value → Prop) : ffn Tryz.prog ST1 [] 3000 [] Tryz.f142 [.string (bl [a, b]), .int .i64 16, .int .i64 8] h0 (fun v _ => Q v) =
    dgT a fun v => bif decide (w64 (0 + w64 v) < 0) then False else bif decide (w64 (0 + w64 v) > 255) then False else
      dgT b fun u => bif decide (w64 (0 + w64 v) ≥ 1152921504606846976) then False else
        bif decide (w64 (w64 (w64 (0 + w64 v) * 16) + w64 u) < w64 (w64 (0 + w64 v) * 16)) then False else bif decide (w64 (w64 (w64 (0 + w64 v) * 16) + w64 u) > 255) then False else
          Q (.tuple ⟨[.int .u64 (w64 (w64 (w64 (0 + w64 v) * 16) + w64 u)), .nilIface]⟩) := by kernel_rfl
theorem dg_48 (K : Int → Prop) : dgT 48 K = K 0 := by kernel_rfl
theorem dg_49 (K : Int → Prop) : dgT 49 K = K 1 := by kernel_rfl
theorem dg_50 (K : Int → Prop) : dgT 50 K = K 2 := by kernel_rfl
theorem dg_51 (K : Int → Prop) : dgT 51 K = K 3 := by kernel_rfl
theorem dg_52 (K : Int → Prop) : dgT 52 K = K 4 := by kernel_rfl
theorem dg_53 (K : Int → Prop) : dgT 53 K = K 5 := by kernel_rfl
theorem dg_54 (K : Int → Prop) : dgT 54 K = K 6 := by kernel_rfl
theorem dg_55 (K : Int → Prop) : dgT 55 K = K 7 := by kernel_rfl
theorem dg_56 (K : Int → Prop) : dgT 56 K = K 8 := by kernel_rfl
theorem dg_57 (K : Int → Prop) : dgT 57 K = K 9 := by kernel_rfl
theorem dg_65 (K : Int → Prop) : dgT 65 K = K 10 := by kernel_rfl
theorem dg_66 (K : Int → Prop) : dgT 66 K = K 11 := by kernel_rfl
theorem dg_67 (K : Int → Prop) : dgT 67 K = K 12 := by kernel_rfl
theorem dg_68 (K : Int → Prop) : dgT 68 K = K 13 := by kernel_rfl
theorem dg_69 (K : Int → Prop) : dgT 69 K = K 14 := by kernel_rfl
theorem dg_70 (K : Int → Prop) : dgT 70 K = K 15 := by kernel_rfl
theorem dg_97 (K : Int → Prop) : dgT 97 K = K 10 := by kernel_rfl
theorem dg_98 (K : Int → Prop) : dgT 98 K = K 11 := by kernel_rfl
theorem dg_99 (K : Int → Prop) : dgT 99 K = K 12 := by kernel_rfl
theorem dg_100 (K : Int → Prop) : dgT 100 K = K 13 := by kernel_rfl
theorem dg_101 (K : Int → Prop) : dgT 101 K = K 14 := by kernel_rfl
theorem dg_102 (K : Int → Prop) : dgT 102 K = K 15 := by kernel_rfl
theorem ends : ((List.range 16).all fun x => (List.range 16).all fun y => !decide (w64 (0 + w64 (x : Int)) < 0) && !decide (w64 (0 + w64 (x : Int)) > 255) && !decide (w64 (0 + w64 (x : Int)) ≥ 1152921504606846976) &&
    !decide (w64 (w64 (w64 (0 + w64 (x : Int)) * 16) + w64 (y : Int)) < w64 (w64 (0 + w64 (x : Int)) * 16)) && !decide (w64 (w64 (w64 (0 + w64 (x : Int)) * 16) + w64 (y : Int)) > 255) && (w64 (w64 (w64 (0 + w64 (x : Int)) * 16) + w64 (y : Int)) == ((UInt8.ofNat x * 16 + UInt8.ofNat y).toNat : Int))) = true := by kernel_rfl
theorem hex_in (c : UInt8) (h : isHexB c = true) : c ∈ hexL := by
  have := all_u8 (p := fun c => !isHexB c || hexL.contains c) (by decide +kernel) c
  simp only [h, Bool.not_true, Bool.false_or] at this
  simpa using this
theorem dg_ok {c : UInt8} (h : isHexB c = true) {K : Int → Prop} (hK : ∀ x : Nat, x < 16 → hexV c = UInt8.ofNat x → K (x : Int)) : dgT c K := by
  have h1 := hex_in c h
  simp only [hexL, List.mem_cons, List.not_mem_nil, or_false] at h1
  rcases h1 with rfl | rfl | rfl | rfl | rfl | rfl | rfl | rfl | rfl | rfl | rfl | rfl | rfl | rfl | rfl | rfl | rfl | rfl | rfl | rfl | rfl | rfl
  · exact (dg_48 K) ▸ hK 0 (by decide) (by decide)
  · exact (dg_49 K) ▸ hK 1 (by decide) (by decide)
  · exact (dg_50 K) ▸ hK 2 (by decide) (by decide)
  · exact (dg_51 K) ▸ hK 3 (by decide) (by decide)
  · exact (dg_52 K) ▸ hK 4 (by decide) (by decide)
  · exact (dg_53 K) ▸ hK 5 (by decide) (by decide)
  · exact (dg_54 K) ▸ hK 6 (by decide) (by decide)
  · exact (dg_55 K) ▸ hK 7 (by decide) (by decide)
  · exact (dg_56 K) ▸ hK 8 (by decide) (by decide)
  · exact (dg_57 K) ▸ hK 9 (by decide) (by decide)
  · exact (dg_65 K) ▸ hK 10 (by decide) (by decide)
  · exact (dg_66 K) ▸ hK 11 (by decide) (by decide)
  · exact (dg_67 K) ▸ hK 12 (by decide) (by decide)
  · exact (dg_68 K) ▸ hK 13 (by decide) (by decide)
  · exact (dg_69 K) ▸ hK 14 (by decide) (by decide)
  · exact (dg_70 K) ▸ hK 15 (by decide) (by decide)
  · exact (dg_97 K) ▸ hK 10 (by decide) (by decide)
  · exact (dg_98 K) ▸ hK 11 (by decide) (by decide)
  · exact (dg_99 K) ▸ hK 12 (by decide) (by decide)
  · exact (dg_100 K) ▸ hK 13 (by decide) (by decide)
  · exact (dg_101 K) ▸ hK 14 (by decide) (by decide)
  · exact (dg_102 K) ▸ hK 15 (by decide) (by decide)
theorem pu_fn {a b : UInt8} (ha : isHexB a = true) (hb : isHexB b = true) : FnOK 0 Tryz.prog 142 ⟨[.string (bl [a, b]), .int .i64 16, .int .i64 8]⟩ h0 (fun u _ => u = .tuple ⟨[.int .u64 ((unitB a b).toNat : Int), .nilIface]⟩) := by
  refine FnOK.ftree ST1_ok mixed Tryz.func142 somePU (pu a b _) ?_
  refine dg_ok ha fun x hx hxa => ?_
  have hr := List.all_eq_true.1 ends x (List.mem_range.2 hx)
  have h00 := List.all_eq_true.1 hr 0 (by decide)
  simp only [Bool.and_eq_true, Bool.not_eq_true'] at h00
  obtain ⟨⟨⟨⟨⟨e1, e2⟩, e3⟩, _⟩, _⟩, _⟩ := h00
  refine pick_f e1 (pick_f e2 (dg_ok hb fun y hy hyb => ?_))
  have hxy := List.all_eq_true.1 hr y (List.mem_range.2 hy)
  simp only [Bool.and_eq_true, Bool.not_eq_true', beq_iff_eq] at hxy
  obtain ⟨⟨⟨_, e4⟩, e5⟩, e6⟩ := hxy
  refine pick_f e3 (pick_f e4 (pick_f e5 ?_))
  rw [e6]
  have : unitB a b = UInt8.ofNat x * 16 + UInt8.ofNat y := by unfold unitB; rw [hxa, hyb]
  rw [this]
def hx2 (s : ByteArray) : Bool := match s.data.toList with
  | [a, b] => isHexB a && isHexB b
  | _ => false
def un2 (s : ByteArray) : Int := ((unitB (s.data.toList.getD 0 0) (s.data.toList.getD 1 0)).toNat : Int)
noncomputable def spPu (f : FuncId) (args : Array Value) (h : AH) : Option (Bool × Value × AH) :=
  cond (Nat.beq f 142) (match args with
    | ⟨[.string s, .int .i64 b, .int .i64 k]⟩ => some (hx2 s && decide (b = 16) && decide (k = 8), .tuple ⟨[.int .u64 (un2 s), .nilIface]⟩, h)
    | _ => none) none
theorem spPu_ok : SpOK spPu := by
  intro f args h v h' hs
  unfold spPu at hs
  obtain ⟨hf, hs2⟩ := cond_some hs
  clear hs
  have := Nat.eq_of_beq_eq_true hf
  subst this
  split at hs2
  · injection hs2 with hs
    injection hs with hb hs
    injection hs with hv hh
    subst hv hh
    rename_i s b k
    simp only [Bool.and_eq_true, decide_eq_true_eq] at hb
    obtain ⟨⟨hb, rfl⟩, rfl⟩ := hb
    unfold hx2 at hb
    split at hb
    · rename_i a b hl
      rw [Bool.and_eq_true] at hb
      have e : s = bl [a, b] := by rw [← bl_self s, hl]
      have e2 : un2 s = ((unitB a b).toNat : Int) := by unfold un2; rw [hl]; rfl
      rw [e2, e]
      exact ⟨FnOK.pure (pu_fn hb.1 hb.2) rfl rfl h, Nat.le_refl _⟩
    · cases hb
  · cases hs2
end Go.Proofs.YtnaeehnkabojdaaGreatDoor
