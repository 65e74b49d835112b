/-
  Paths: memberAt, at.
-/
import Derived.Test.YtmclppkligkooaaGreatDoorLvM
namespace Go.Proofs.YtmclppkligkooaaGreatDoor
open Go.Ev Go.RowKit
set_option maxRecDepth 20000

/-! memberAt -/
abbrev CMP (a b : ByteArray) : Int := Go.Extern.BytealgCompare.cmp a b
def nmZ (z : Value) : ByteArray := toStr (z.cells.toList.getD 0 undef)
theorem someMA : Tryz.f36.body.isSome = true := by kernel_rfl
theorem ma_e1_0 (z0 : Value) (w : ByteArray) (Q : Value → Prop) : ffn Tryz.prog SP0 [(1, false)] 900 [] Tryz.f36 [fz ⟨[z0]⟩, .string w] h0 (fun v _ => Q v) = (z0 = e7 z0 ∧ nf (decide (CMP (nmZ z0) w < 0)) (z0 = e7 z0 ∧ Q (.tuple ⟨[.int .i64 0, .bool (CMP (nmZ z0) w == 0)]⟩))) := by kernel_rfl
theorem ma_e2_0 (z0 z1 : Value) (w : ByteArray) (Q : Value → Prop) : ffn Tryz.prog SP0 [(1, false), (39, false)] 900 [] Tryz.f36 [fz ⟨[z0, z1]⟩, .string w] h0 (fun v _ => Q v) = (z1 = e7 z1 ∧ nf (decide (CMP (nmZ z1) w < 0)) (z0 = e7 z0 ∧ nf (decide (CMP (nmZ z0) w < 0)) (z0 = e7 z0 ∧ Q (.tuple ⟨[.int .i64 0, .bool (CMP (nmZ z0) w == 0)]⟩)))) := by kernel_rfl
theorem ma_e2_1 (z0 z1 : Value) (w : ByteArray) (Q : Value → Prop) : ffn Tryz.prog SP0 [(1, false), (39, true)] 900 [] Tryz.f36 [fz ⟨[z0, z1]⟩, .string w] h0 (fun v _ => Q v) = (z1 = e7 z1 ∧ nf (decide (CMP (nmZ z1) w < 0)) (z0 = e7 z0 ∧ nd (decide (CMP (nmZ z0) w < 0)) (z1 = e7 z1 ∧ Q (.tuple ⟨[.int .i64 1, .bool (CMP (nmZ z1) w == 0)]⟩)))) := by kernel_rfl
theorem ma_e3_0 (z0 z1 z2 : Value) (w : ByteArray) (Q : Value → Prop) : ffn Tryz.prog SP0 [(1, false), (39, false)] 900 [] Tryz.f36 [fz ⟨[z0, z1, z2]⟩, .string w] h0 (fun v _ => Q v) = (z1 = e7 z1 ∧ nf (decide (CMP (nmZ z1) w < 0)) (z0 = e7 z0 ∧ nf (decide (CMP (nmZ z0) w < 0)) (z0 = e7 z0 ∧ Q (.tuple ⟨[.int .i64 0, .bool (CMP (nmZ z0) w == 0)]⟩)))) := by kernel_rfl
theorem ma_e3_1 (z0 z1 z2 : Value) (w : ByteArray) (Q : Value → Prop) : ffn Tryz.prog SP0 [(1, false), (39, true)] 900 [] Tryz.f36 [fz ⟨[z0, z1, z2]⟩, .string w] h0 (fun v _ => Q v) = (z1 = e7 z1 ∧ nf (decide (CMP (nmZ z1) w < 0)) (z0 = e7 z0 ∧ nd (decide (CMP (nmZ z0) w < 0)) (z1 = e7 z1 ∧ Q (.tuple ⟨[.int .i64 1, .bool (CMP (nmZ z1) w == 0)]⟩)))) := by kernel_rfl
theorem ma_e3_2 (z0 z1 z2 : Value) (w : ByteArray) (Q : Value → Prop) : ffn Tryz.prog SP0 [(1, true), (3, false)] 900 [] Tryz.f36 [fz ⟨[z0, z1, z2]⟩, .string w] h0 (fun v _ => Q v) = (z1 = e7 z1 ∧ nd (decide (CMP (nmZ z1) w < 0)) (z2 = e7 z2 ∧ nf (decide (CMP (nmZ z2) w < 0)) (z2 = e7 z2 ∧ Q (.tuple ⟨[.int .i64 2, .bool (CMP (nmZ z2) w == 0)]⟩)))) := by kernel_rfl
theorem ma_e4_0 (z0 z1 z2 z3 : Value) (w : ByteArray) (Q : Value → Prop) : ffn Tryz.prog SP0 [(1, false), (39, false), (1217, false)] 900 [] Tryz.f36 [fz ⟨[z0, z1, z2, z3]⟩, .string w] h0 (fun v _ => Q v) = (z2 = e7 z2 ∧ nf (decide (CMP (nmZ z2) w < 0)) (z1 = e7 z1 ∧ nf (decide (CMP (nmZ z1) w < 0)) (z0 = e7 z0 ∧ nf (decide (CMP (nmZ z0) w < 0)) (z0 = e7 z0 ∧ Q (.tuple ⟨[.int .i64 0, .bool (CMP (nmZ z0) w == 0)]⟩))))) := by kernel_rfl
theorem ma_e4_1 (z0 z1 z2 z3 : Value) (w : ByteArray) (Q : Value → Prop) : ffn Tryz.prog SP0 [(1, false), (39, false), (1217, true)] 900 [] Tryz.f36 [fz ⟨[z0, z1, z2, z3]⟩, .string w] h0 (fun v _ => Q v) = (z2 = e7 z2 ∧ nf (decide (CMP (nmZ z2) w < 0)) (z1 = e7 z1 ∧ nf (decide (CMP (nmZ z1) w < 0)) (z0 = e7 z0 ∧ nd (decide (CMP (nmZ z0) w < 0)) (z1 = e7 z1 ∧ Q (.tuple ⟨[.int .i64 1, .bool (CMP (nmZ z1) w == 0)]⟩))))) := by kernel_rfl
theorem ma_e4_2 (z0 z1 z2 z3 : Value) (w : ByteArray) (Q : Value → Prop) : ffn Tryz.prog SP0 [(1, false), (39, true)] 900 [] Tryz.f36 [fz ⟨[z0, z1, z2, z3]⟩, .string w] h0 (fun v _ => Q v) = (z2 = e7 z2 ∧ nf (decide (CMP (nmZ z2) w < 0)) (z1 = e7 z1 ∧ nd (decide (CMP (nmZ z1) w < 0)) (z2 = e7 z2 ∧ Q (.tuple ⟨[.int .i64 2, .bool (CMP (nmZ z2) w == 0)]⟩)))) := by kernel_rfl
theorem ma_e4_3 (z0 z1 z2 z3 : Value) (w : ByteArray) (Q : Value → Prop) : ffn Tryz.prog SP0 [(1, true), (3, false)] 900 [] Tryz.f36 [fz ⟨[z0, z1, z2, z3]⟩, .string w] h0 (fun v _ => Q v) = (z2 = e7 z2 ∧ nd (decide (CMP (nmZ z2) w < 0)) (z3 = e7 z3 ∧ nf (decide (CMP (nmZ z3) w < 0)) (z3 = e7 z3 ∧ Q (.tuple ⟨[.int .i64 3, .bool (CMP (nmZ z3) w == 0)]⟩)))) := by kernel_rfl
theorem ma_e5_0 (z0 z1 z2 z3 z4 : Value) (w : ByteArray) (Q : Value → Prop) : ffn Tryz.prog SP0 [(1, false), (39, false), (1217, false)] 900 [] Tryz.f36 [fz ⟨[z0, z1, z2, z3, z4]⟩, .string w] h0 (fun v _ => Q v) = (z2 = e7 z2 ∧ nf (decide (CMP (nmZ z2) w < 0)) (z1 = e7 z1 ∧ nf (decide (CMP (nmZ z1) w < 0)) (z0 = e7 z0 ∧ nf (decide (CMP (nmZ z0) w < 0)) (z0 = e7 z0 ∧ Q (.tuple ⟨[.int .i64 0, .bool (CMP (nmZ z0) w == 0)]⟩))))) := by kernel_rfl
theorem ma_e5_1 (z0 z1 z2 z3 z4 : Value) (w : ByteArray) (Q : Value → Prop) : ffn Tryz.prog SP0 [(1, false), (39, false), (1217, true)] 900 [] Tryz.f36 [fz ⟨[z0, z1, z2, z3, z4]⟩, .string w] h0 (fun v _ => Q v) = (z2 = e7 z2 ∧ nf (decide (CMP (nmZ z2) w < 0)) (z1 = e7 z1 ∧ nf (decide (CMP (nmZ z1) w < 0)) (z0 = e7 z0 ∧ nd (decide (CMP (nmZ z0) w < 0)) (z1 = e7 z1 ∧ Q (.tuple ⟨[.int .i64 1, .bool (CMP (nmZ z1) w == 0)]⟩))))) := by kernel_rfl
theorem ma_e5_2 (z0 z1 z2 z3 z4 : Value) (w : ByteArray) (Q : Value → Prop) : ffn Tryz.prog SP0 [(1, false), (39, true)] 900 [] Tryz.f36 [fz ⟨[z0, z1, z2, z3, z4]⟩, .string w] h0 (fun v _ => Q v) = (z2 = e7 z2 ∧ nf (decide (CMP (nmZ z2) w < 0)) (z1 = e7 z1 ∧ nd (decide (CMP (nmZ z1) w < 0)) (z2 = e7 z2 ∧ Q (.tuple ⟨[.int .i64 2, .bool (CMP (nmZ z2) w == 0)]⟩)))) := by kernel_rfl
theorem ma_e5_3 (z0 z1 z2 z3 z4 : Value) (w : ByteArray) (Q : Value → Prop) : ffn Tryz.prog SP0 [(1, true), (3, false), (101, false)] 900 [] Tryz.f36 [fz ⟨[z0, z1, z2, z3, z4]⟩, .string w] h0 (fun v _ => Q v) = (z2 = e7 z2 ∧ nd (decide (CMP (nmZ z2) w < 0)) (z4 = e7 z4 ∧ nf (decide (CMP (nmZ z4) w < 0)) (z3 = e7 z3 ∧ nf (decide (CMP (nmZ z3) w < 0)) (z3 = e7 z3 ∧ Q (.tuple ⟨[.int .i64 3, .bool (CMP (nmZ z3) w == 0)]⟩))))) := by kernel_rfl
theorem ma_e5_4 (z0 z1 z2 z3 z4 : Value) (w : ByteArray) (Q : Value → Prop) : ffn Tryz.prog SP0 [(1, true), (3, false), (101, true)] 900 [] Tryz.f36 [fz ⟨[z0, z1, z2, z3, z4]⟩, .string w] h0 (fun v _ => Q v) = (z2 = e7 z2 ∧ nd (decide (CMP (nmZ z2) w < 0)) (z4 = e7 z4 ∧ nf (decide (CMP (nmZ z4) w < 0)) (z3 = e7 z3 ∧ nd (decide (CMP (nmZ z3) w < 0)) (z4 = e7 z4 ∧ Q (.tuple ⟨[.int .i64 4, .bool (CMP (nmZ z4) w == 0)]⟩))))) := by kernel_rfl
theorem ma_e6_0 (z0 z1 z2 z3 z4 z5 : Value) (w : ByteArray) (Q : Value → Prop) : ffn Tryz.prog SP0 [(1, false), (39, false), (1217, false)] 900 [] Tryz.f36 [fz ⟨[z0, z1, z2, z3, z4, z5]⟩, .string w] h0 (fun v _ => Q v) = (z3 = e7 z3 ∧ nf (decide (CMP (nmZ z3) w < 0)) (z1 = e7 z1 ∧ nf (decide (CMP (nmZ z1) w < 0)) (z0 = e7 z0 ∧ nf (decide (CMP (nmZ z0) w < 0)) (z0 = e7 z0 ∧ Q (.tuple ⟨[.int .i64 0, .bool (CMP (nmZ z0) w == 0)]⟩))))) := by kernel_rfl
theorem ma_e6_1 (z0 z1 z2 z3 z4 z5 : Value) (w : ByteArray) (Q : Value → Prop) : ffn Tryz.prog SP0 [(1, false), (39, false), (1217, true)] 900 [] Tryz.f36 [fz ⟨[z0, z1, z2, z3, z4, z5]⟩, .string w] h0 (fun v _ => Q v) = (z3 = e7 z3 ∧ nf (decide (CMP (nmZ z3) w < 0)) (z1 = e7 z1 ∧ nf (decide (CMP (nmZ z1) w < 0)) (z0 = e7 z0 ∧ nd (decide (CMP (nmZ z0) w < 0)) (z1 = e7 z1 ∧ Q (.tuple ⟨[.int .i64 1, .bool (CMP (nmZ z1) w == 0)]⟩))))) := by kernel_rfl
theorem ma_e6_2 (z0 z1 z2 z3 z4 z5 : Value) (w : ByteArray) (Q : Value → Prop) : ffn Tryz.prog SP0 [(1, false), (39, true), (41, false)] 900 [] Tryz.f36 [fz ⟨[z0, z1, z2, z3, z4, z5]⟩, .string w] h0 (fun v _ => Q v) = (z3 = e7 z3 ∧ nf (decide (CMP (nmZ z3) w < 0)) (z1 = e7 z1 ∧ nd (decide (CMP (nmZ z1) w < 0)) (z2 = e7 z2 ∧ nf (decide (CMP (nmZ z2) w < 0)) (z2 = e7 z2 ∧ Q (.tuple ⟨[.int .i64 2, .bool (CMP (nmZ z2) w == 0)]⟩))))) := by kernel_rfl
theorem ma_e6_3 (z0 z1 z2 z3 z4 z5 : Value) (w : ByteArray) (Q : Value → Prop) : ffn Tryz.prog SP0 [(1, false), (39, true), (41, true)] 900 [] Tryz.f36 [fz ⟨[z0, z1, z2, z3, z4, z5]⟩, .string w] h0 (fun v _ => Q v) = (z3 = e7 z3 ∧ nf (decide (CMP (nmZ z3) w < 0)) (z1 = e7 z1 ∧ nd (decide (CMP (nmZ z1) w < 0)) (z2 = e7 z2 ∧ nd (decide (CMP (nmZ z2) w < 0)) (z3 = e7 z3 ∧ Q (.tuple ⟨[.int .i64 3, .bool (CMP (nmZ z3) w == 0)]⟩))))) := by kernel_rfl
theorem ma_e6_4 (z0 z1 z2 z3 z4 z5 : Value) (w : ByteArray) (Q : Value → Prop) : ffn Tryz.prog SP0 [(1, true), (3, false), (101, false)] 900 [] Tryz.f36 [fz ⟨[z0, z1, z2, z3, z4, z5]⟩, .string w] h0 (fun v _ => Q v) = (z3 = e7 z3 ∧ nd (decide (CMP (nmZ z3) w < 0)) (z5 = e7 z5 ∧ nf (decide (CMP (nmZ z5) w < 0)) (z4 = e7 z4 ∧ nf (decide (CMP (nmZ z4) w < 0)) (z4 = e7 z4 ∧ Q (.tuple ⟨[.int .i64 4, .bool (CMP (nmZ z4) w == 0)]⟩))))) := by kernel_rfl
theorem ma_e6_5 (z0 z1 z2 z3 z4 z5 : Value) (w : ByteArray) (Q : Value → Prop) : ffn Tryz.prog SP0 [(1, true), (3, false), (101, true)] 900 [] Tryz.f36 [fz ⟨[z0, z1, z2, z3, z4, z5]⟩, .string w] h0 (fun v _ => Q v) = (z3 = e7 z3 ∧ nd (decide (CMP (nmZ z3) w < 0)) (z5 = e7 z5 ∧ nf (decide (CMP (nmZ z5) w < 0)) (z4 = e7 z4 ∧ nd (decide (CMP (nmZ z4) w < 0)) (z5 = e7 z5 ∧ Q (.tuple ⟨[.int .i64 5, .bool (CMP (nmZ z5) w == 0)]⟩))))) := by kernel_rfl
abbrev RC (a b : ValLaw.W) : Prop := CMP (bl a) (bl b) < 0 ∧ ¬ CMP (bl b) (bl a) < 0
theorem rc6 : ValLaw.names6.Pairwise RC := by decide +kernel
theorem prw {L : List ValLaw.W} (h : L.Sublist ValLaw.names6) {i j : Nat} (hi : i < L.length) (hj : j < L.length) (hij : i < j) : RC L[i] L[j] := List.pairwise_iff_getElem.1 (rc6.sublist h) i j hi hj hij
theorem cmp_self {a : ValLaw.W} (h : a ∈ ValLaw.names6) : CMP (bl a) (bl a) = 0 := by
  have key : ∀ a ∈ ValLaw.names6, CMP (bl a) (bl a) = 0 := by decide +kernel
  exact key a h
theorem cz_f {c : Nat} {p : ValLaw.W × ValLaw.T c} (hm : p.1 ∈ ValLaw.names6) : decide (CMP (nmZ (mbr p.1 (enc c p.2))) (bl p.1) < 0) = false := by
  have : CMP (nmZ (mbr p.1 (enc c p.2))) (bl p.1) = 0 := cmp_self hm
  rw [this]; rfl
theorem cz_t {c : Nat} {p : ValLaw.W × ValLaw.T c} (hm : p.1 ∈ ValLaw.names6) {t : Int} : (.tuple ⟨[.int .i64 t, .bool (CMP (nmZ (mbr p.1 (enc c p.2))) (bl p.1) == 0)]⟩ : Value) = .tuple ⟨[.int .i64 t, .bool true]⟩ := by
  have : CMP (nmZ (mbr p.1 (enc c p.2))) (bl p.1) = 0 := cmp_self hm
  rw [this]; rfl
def MaF (c : Nat) (M : List (ValLaw.W × ValLaw.T c)) (i : Nat) (p : ValLaw.W × ValLaw.T c) : Prop := FnOK 0 Tryz.prog 36 ⟨[fz ⟨M.map fun p => mbr p.1 (enc c p.2)⟩, .string (bl p.1)]⟩ h0 (fun v _ => v = .tuple ⟨[.int .i64 (i : Int), .bool true]⟩)
theorem ma_1_0 {c : Nat} (p0 : ValLaw.W × ValLaw.T c) (h : ([p0] : List (ValLaw.W × ValLaw.T c)).map (·.1) |>.Sublist ValLaw.names6) : FnOK 0 Tryz.prog 36 ⟨[fz ⟨[mbr p0.1 (enc c p0.2)]⟩, .string (bl p0.1)]⟩ h0 (fun v _ => v = .tuple ⟨[.int .i64 0, .bool true]⟩) := by
  have hm : p0.1 ∈ ValLaw.names6 := h.subset (by simp)
  have e0 := ma_e1_0 (mbr p0.1 (enc c p0.2)) (bl p0.1) (fun v => v = .tuple ⟨[.int .i64 0, .bool true]⟩)
  refine FnOK.ftree SP0_ok mixed Tryz.func36 someMA e0 ?_
  exact ⟨mbr_e7 _ _ _, nf_mk (cz_f hm) ⟨mbr_e7 _ _ _, cz_t hm⟩⟩
theorem ma_2_0 {c : Nat} (p0 p1 : ValLaw.W × ValLaw.T c) (h : ([p0, p1] : List (ValLaw.W × ValLaw.T c)).map (·.1) |>.Sublist ValLaw.names6) : FnOK 0 Tryz.prog 36 ⟨[fz ⟨[mbr p0.1 (enc c p0.2), mbr p1.1 (enc c p1.2)]⟩, .string (bl p0.1)]⟩ h0 (fun v _ => v = .tuple ⟨[.int .i64 0, .bool true]⟩) := by
  have hm : p0.1 ∈ ValLaw.names6 := h.subset (by simp)
  have e0 := ma_e2_0 (mbr p0.1 (enc c p0.2)) (mbr p1.1 (enc c p1.2)) (bl p0.1) (fun v => v = .tuple ⟨[.int .i64 0, .bool true]⟩)
  refine FnOK.ftree SP0_ok mixed Tryz.func36 someMA e0 ?_
  exact ⟨mbr_e7 _ _ _, nf_mk (decide_eq_false (prw h (i := 0) (j := 1) (by simp) (by simp) (by decide)).2) ⟨mbr_e7 _ _ _, nf_mk (cz_f hm) ⟨mbr_e7 _ _ _, cz_t hm⟩⟩⟩
theorem ma_2_1 {c : Nat} (p0 p1 : ValLaw.W × ValLaw.T c) (h : ([p0, p1] : List (ValLaw.W × ValLaw.T c)).map (·.1) |>.Sublist ValLaw.names6) : FnOK 0 Tryz.prog 36 ⟨[fz ⟨[mbr p0.1 (enc c p0.2), mbr p1.1 (enc c p1.2)]⟩, .string (bl p1.1)]⟩ h0 (fun v _ => v = .tuple ⟨[.int .i64 1, .bool true]⟩) := by
  have hm : p1.1 ∈ ValLaw.names6 := h.subset (by simp)
  have e0 := ma_e2_1 (mbr p0.1 (enc c p0.2)) (mbr p1.1 (enc c p1.2)) (bl p1.1) (fun v => v = .tuple ⟨[.int .i64 1, .bool true]⟩)
  refine FnOK.ftree SP0_ok mixed Tryz.func36 someMA e0 ?_
  exact ⟨mbr_e7 _ _ _, nf_mk (cz_f hm) ⟨mbr_e7 _ _ _, nd_mk (decide_eq_true (prw h (i := 0) (j := 1) (by simp) (by simp) (by decide)).1) ⟨mbr_e7 _ _ _, cz_t hm⟩⟩⟩
theorem ma_3_0 {c : Nat} (p0 p1 p2 : ValLaw.W × ValLaw.T c) (h : ([p0, p1, p2] : List (ValLaw.W × ValLaw.T c)).map (·.1) |>.Sublist ValLaw.names6) : FnOK 0 Tryz.prog 36 ⟨[fz ⟨[mbr p0.1 (enc c p0.2), mbr p1.1 (enc c p1.2), mbr p2.1 (enc c p2.2)]⟩, .string (bl p0.1)]⟩ h0 (fun v _ => v = .tuple ⟨[.int .i64 0, .bool true]⟩) := by
  have hm : p0.1 ∈ ValLaw.names6 := h.subset (by simp)
  have e0 := ma_e3_0 (mbr p0.1 (enc c p0.2)) (mbr p1.1 (enc c p1.2)) (mbr p2.1 (enc c p2.2)) (bl p0.1) (fun v => v = .tuple ⟨[.int .i64 0, .bool true]⟩)
  refine FnOK.ftree SP0_ok mixed Tryz.func36 someMA e0 ?_
  exact ⟨mbr_e7 _ _ _, nf_mk (decide_eq_false (prw h (i := 0) (j := 1) (by simp) (by simp) (by decide)).2) ⟨mbr_e7 _ _ _, nf_mk (cz_f hm) ⟨mbr_e7 _ _ _, cz_t hm⟩⟩⟩
theorem ma_3_1 {c : Nat} (p0 p1 p2 : ValLaw.W × ValLaw.T c) (h : ([p0, p1, p2] : List (ValLaw.W × ValLaw.T c)).map (·.1) |>.Sublist ValLaw.names6) : FnOK 0 Tryz.prog 36 ⟨[fz ⟨[mbr p0.1 (enc c p0.2), mbr p1.1 (enc c p1.2), mbr p2.1 (enc c p2.2)]⟩, .string (bl p1.1)]⟩ h0 (fun v _ => v = .tuple ⟨[.int .i64 1, .bool true]⟩) := by
  have hm : p1.1 ∈ ValLaw.names6 := h.subset (by simp)
  have e0 := ma_e3_1 (mbr p0.1 (enc c p0.2)) (mbr p1.1 (enc c p1.2)) (mbr p2.1 (enc c p2.2)) (bl p1.1) (fun v => v = .tuple ⟨[.int .i64 1, .bool true]⟩)
  refine FnOK.ftree SP0_ok mixed Tryz.func36 someMA e0 ?_
  exact ⟨mbr_e7 _ _ _, nf_mk (cz_f hm) ⟨mbr_e7 _ _ _, nd_mk (decide_eq_true (prw h (i := 0) (j := 1) (by simp) (by simp) (by decide)).1) ⟨mbr_e7 _ _ _, cz_t hm⟩⟩⟩
theorem ma_3_2 {c : Nat} (p0 p1 p2 : ValLaw.W × ValLaw.T c) (h : ([p0, p1, p2] : List (ValLaw.W × ValLaw.T c)).map (·.1) |>.Sublist ValLaw.names6) : FnOK 0 Tryz.prog 36 ⟨[fz ⟨[mbr p0.1 (enc c p0.2), mbr p1.1 (enc c p1.2), mbr p2.1 (enc c p2.2)]⟩, .string (bl p2.1)]⟩ h0 (fun v _ => v = .tuple ⟨[.int .i64 2, .bool true]⟩) := by
  have hm : p2.1 ∈ ValLaw.names6 := h.subset (by simp)
  have e0 := ma_e3_2 (mbr p0.1 (enc c p0.2)) (mbr p1.1 (enc c p1.2)) (mbr p2.1 (enc c p2.2)) (bl p2.1) (fun v => v = .tuple ⟨[.int .i64 2, .bool true]⟩)
  refine FnOK.ftree SP0_ok mixed Tryz.func36 someMA e0 ?_
  exact ⟨mbr_e7 _ _ _, nd_mk (decide_eq_true (prw h (i := 1) (j := 2) (by simp) (by simp) (by decide)).1) ⟨mbr_e7 _ _ _, nf_mk (cz_f hm) ⟨mbr_e7 _ _ _, cz_t hm⟩⟩⟩
theorem ma_4_0 {c : Nat} (p0 p1 p2 p3 : ValLaw.W × ValLaw.T c) (h : ([p0, p1, p2, p3] : List (ValLaw.W × ValLaw.T c)).map (·.1) |>.Sublist ValLaw.names6) : FnOK 0 Tryz.prog 36 ⟨[fz ⟨[mbr p0.1 (enc c p0.2), mbr p1.1 (enc c p1.2), mbr p2.1 (enc c p2.2), mbr p3.1 (enc c p3.2)]⟩, .string (bl p0.1)]⟩ h0 (fun v _ => v = .tuple ⟨[.int .i64 0, .bool true]⟩) := by
  have hm : p0.1 ∈ ValLaw.names6 := h.subset (by simp)
  have e0 := ma_e4_0 (mbr p0.1 (enc c p0.2)) (mbr p1.1 (enc c p1.2)) (mbr p2.1 (enc c p2.2)) (mbr p3.1 (enc c p3.2)) (bl p0.1) (fun v => v = .tuple ⟨[.int .i64 0, .bool true]⟩)
  refine FnOK.ftree SP0_ok mixed Tryz.func36 someMA e0 ?_
  exact ⟨mbr_e7 _ _ _, nf_mk (decide_eq_false (prw h (i := 0) (j := 2) (by simp) (by simp) (by decide)).2) ⟨mbr_e7 _ _ _, nf_mk (decide_eq_false (prw h (i := 0) (j := 1) (by simp) (by simp) (by decide)).2) ⟨mbr_e7 _ _ _, nf_mk (cz_f hm) ⟨mbr_e7 _ _ _, cz_t hm⟩⟩⟩⟩
theorem ma_4_1 {c : Nat} (p0 p1 p2 p3 : ValLaw.W × ValLaw.T c) (h : ([p0, p1, p2, p3] : List (ValLaw.W × ValLaw.T c)).map (·.1) |>.Sublist ValLaw.names6) : FnOK 0 Tryz.prog 36 ⟨[fz ⟨[mbr p0.1 (enc c p0.2), mbr p1.1 (enc c p1.2), mbr p2.1 (enc c p2.2), mbr p3.1 (enc c p3.2)]⟩, .string (bl p1.1)]⟩ h0 (fun v _ => v = .tuple ⟨[.int .i64 1, .bool true]⟩) := by
  have hm : p1.1 ∈ ValLaw.names6 := h.subset (by simp)
  have e0 := ma_e4_1 (mbr p0.1 (enc c p0.2)) (mbr p1.1 (enc c p1.2)) (mbr p2.1 (enc c p2.2)) (mbr p3.1 (enc c p3.2)) (bl p1.1) (fun v => v = .tuple ⟨[.int .i64 1, .bool true]⟩)
  refine FnOK.ftree SP0_ok mixed Tryz.func36 someMA e0 ?_
  exact ⟨mbr_e7 _ _ _, nf_mk (decide_eq_false (prw h (i := 1) (j := 2) (by simp) (by simp) (by decide)).2) ⟨mbr_e7 _ _ _, nf_mk (cz_f hm) ⟨mbr_e7 _ _ _, nd_mk (decide_eq_true (prw h (i := 0) (j := 1) (by simp) (by simp) (by decide)).1) ⟨mbr_e7 _ _ _, cz_t hm⟩⟩⟩⟩
theorem ma_4_2 {c : Nat} (p0 p1 p2 p3 : ValLaw.W × ValLaw.T c) (h : ([p0, p1, p2, p3] : List (ValLaw.W × ValLaw.T c)).map (·.1) |>.Sublist ValLaw.names6) : FnOK 0 Tryz.prog 36 ⟨[fz ⟨[mbr p0.1 (enc c p0.2), mbr p1.1 (enc c p1.2), mbr p2.1 (enc c p2.2), mbr p3.1 (enc c p3.2)]⟩, .string (bl p2.1)]⟩ h0 (fun v _ => v = .tuple ⟨[.int .i64 2, .bool true]⟩) := by
  have hm : p2.1 ∈ ValLaw.names6 := h.subset (by simp)
  have e0 := ma_e4_2 (mbr p0.1 (enc c p0.2)) (mbr p1.1 (enc c p1.2)) (mbr p2.1 (enc c p2.2)) (mbr p3.1 (enc c p3.2)) (bl p2.1) (fun v => v = .tuple ⟨[.int .i64 2, .bool true]⟩)
  refine FnOK.ftree SP0_ok mixed Tryz.func36 someMA e0 ?_
  exact ⟨mbr_e7 _ _ _, nf_mk (cz_f hm) ⟨mbr_e7 _ _ _, nd_mk (decide_eq_true (prw h (i := 1) (j := 2) (by simp) (by simp) (by decide)).1) ⟨mbr_e7 _ _ _, cz_t hm⟩⟩⟩
theorem ma_4_3 {c : Nat} (p0 p1 p2 p3 : ValLaw.W × ValLaw.T c) (h : ([p0, p1, p2, p3] : List (ValLaw.W × ValLaw.T c)).map (·.1) |>.Sublist ValLaw.names6) : FnOK 0 Tryz.prog 36 ⟨[fz ⟨[mbr p0.1 (enc c p0.2), mbr p1.1 (enc c p1.2), mbr p2.1 (enc c p2.2), mbr p3.1 (enc c p3.2)]⟩, .string (bl p3.1)]⟩ h0 (fun v _ => v = .tuple ⟨[.int .i64 3, .bool true]⟩) := by
  have hm : p3.1 ∈ ValLaw.names6 := h.subset (by simp)
  have e0 := ma_e4_3 (mbr p0.1 (enc c p0.2)) (mbr p1.1 (enc c p1.2)) (mbr p2.1 (enc c p2.2)) (mbr p3.1 (enc c p3.2)) (bl p3.1) (fun v => v = .tuple ⟨[.int .i64 3, .bool true]⟩)
  refine FnOK.ftree SP0_ok mixed Tryz.func36 someMA e0 ?_
  exact ⟨mbr_e7 _ _ _, nd_mk (decide_eq_true (prw h (i := 2) (j := 3) (by simp) (by simp) (by decide)).1) ⟨mbr_e7 _ _ _, nf_mk (cz_f hm) ⟨mbr_e7 _ _ _, cz_t hm⟩⟩⟩
theorem ma_5_0 {c : Nat} (p0 p1 p2 p3 p4 : ValLaw.W × ValLaw.T c) (h : ([p0, p1, p2, p3, p4] : List (ValLaw.W × ValLaw.T c)).map (·.1) |>.Sublist ValLaw.names6) : FnOK 0 Tryz.prog 36 ⟨[fz ⟨[mbr p0.1 (enc c p0.2), mbr p1.1 (enc c p1.2), mbr p2.1 (enc c p2.2), mbr p3.1 (enc c p3.2), mbr p4.1 (enc c p4.2)]⟩, .string (bl p0.1)]⟩ h0 (fun v _ => v = .tuple ⟨[.int .i64 0, .bool true]⟩) := by
  have hm : p0.1 ∈ ValLaw.names6 := h.subset (by simp)
  have e0 := ma_e5_0 (mbr p0.1 (enc c p0.2)) (mbr p1.1 (enc c p1.2)) (mbr p2.1 (enc c p2.2)) (mbr p3.1 (enc c p3.2)) (mbr p4.1 (enc c p4.2)) (bl p0.1) (fun v => v = .tuple ⟨[.int .i64 0, .bool true]⟩)
  refine FnOK.ftree SP0_ok mixed Tryz.func36 someMA e0 ?_
  exact ⟨mbr_e7 _ _ _, nf_mk (decide_eq_false (prw h (i := 0) (j := 2) (by simp) (by simp) (by decide)).2) ⟨mbr_e7 _ _ _, nf_mk (decide_eq_false (prw h (i := 0) (j := 1) (by simp) (by simp) (by decide)).2) ⟨mbr_e7 _ _ _, nf_mk (cz_f hm) ⟨mbr_e7 _ _ _, cz_t hm⟩⟩⟩⟩
theorem ma_5_1 {c : Nat} (p0 p1 p2 p3 p4 : ValLaw.W × ValLaw.T c) (h : ([p0, p1, p2, p3, p4] : List (ValLaw.W × ValLaw.T c)).map (·.1) |>.Sublist ValLaw.names6) : FnOK 0 Tryz.prog 36 ⟨[fz ⟨[mbr p0.1 (enc c p0.2), mbr p1.1 (enc c p1.2), mbr p2.1 (enc c p2.2), mbr p3.1 (enc c p3.2), mbr p4.1 (enc c p4.2)]⟩, .string (bl p1.1)]⟩ h0 (fun v _ => v = .tuple ⟨[.int .i64 1, .bool true]⟩) := by
  have hm : p1.1 ∈ ValLaw.names6 := h.subset (by simp)
  have e0 := ma_e5_1 (mbr p0.1 (enc c p0.2)) (mbr p1.1 (enc c p1.2)) (mbr p2.1 (enc c p2.2)) (mbr p3.1 (enc c p3.2)) (mbr p4.1 (enc c p4.2)) (bl p1.1) (fun v => v = .tuple ⟨[.int .i64 1, .bool true]⟩)
  refine FnOK.ftree SP0_ok mixed Tryz.func36 someMA e0 ?_
  exact ⟨mbr_e7 _ _ _, nf_mk (decide_eq_false (prw h (i := 1) (j := 2) (by simp) (by simp) (by decide)).2) ⟨mbr_e7 _ _ _, nf_mk (cz_f hm) ⟨mbr_e7 _ _ _, nd_mk (decide_eq_true (prw h (i := 0) (j := 1) (by simp) (by simp) (by decide)).1) ⟨mbr_e7 _ _ _, cz_t hm⟩⟩⟩⟩
theorem ma_5_2 {c : Nat} (p0 p1 p2 p3 p4 : ValLaw.W × ValLaw.T c) (h : ([p0, p1, p2, p3, p4] : List (ValLaw.W × ValLaw.T c)).map (·.1) |>.Sublist ValLaw.names6) : FnOK 0 Tryz.prog 36 ⟨[fz ⟨[mbr p0.1 (enc c p0.2), mbr p1.1 (enc c p1.2), mbr p2.1 (enc c p2.2), mbr p3.1 (enc c p3.2), mbr p4.1 (enc c p4.2)]⟩, .string (bl p2.1)]⟩ h0 (fun v _ => v = .tuple ⟨[.int .i64 2, .bool true]⟩) := by
  have hm : p2.1 ∈ ValLaw.names6 := h.subset (by simp)
  have e0 := ma_e5_2 (mbr p0.1 (enc c p0.2)) (mbr p1.1 (enc c p1.2)) (mbr p2.1 (enc c p2.2)) (mbr p3.1 (enc c p3.2)) (mbr p4.1 (enc c p4.2)) (bl p2.1) (fun v => v = .tuple ⟨[.int .i64 2, .bool true]⟩)
  refine FnOK.ftree SP0_ok mixed Tryz.func36 someMA e0 ?_
  exact ⟨mbr_e7 _ _ _, nf_mk (cz_f hm) ⟨mbr_e7 _ _ _, nd_mk (decide_eq_true (prw h (i := 1) (j := 2) (by simp) (by simp) (by decide)).1) ⟨mbr_e7 _ _ _, cz_t hm⟩⟩⟩
theorem ma_5_3 {c : Nat} (p0 p1 p2 p3 p4 : ValLaw.W × ValLaw.T c) (h : ([p0, p1, p2, p3, p4] : List (ValLaw.W × ValLaw.T c)).map (·.1) |>.Sublist ValLaw.names6) : FnOK 0 Tryz.prog 36 ⟨[fz ⟨[mbr p0.1 (enc c p0.2), mbr p1.1 (enc c p1.2), mbr p2.1 (enc c p2.2), mbr p3.1 (enc c p3.2), mbr p4.1 (enc c p4.2)]⟩, .string (bl p3.1)]⟩ h0 (fun v _ => v = .tuple ⟨[.int .i64 3, .bool true]⟩) := by
  have hm : p3.1 ∈ ValLaw.names6 := h.subset (by simp)
  have e0 := ma_e5_3 (mbr p0.1 (enc c p0.2)) (mbr p1.1 (enc c p1.2)) (mbr p2.1 (enc c p2.2)) (mbr p3.1 (enc c p3.2)) (mbr p4.1 (enc c p4.2)) (bl p3.1) (fun v => v = .tuple ⟨[.int .i64 3, .bool true]⟩)
  refine FnOK.ftree SP0_ok mixed Tryz.func36 someMA e0 ?_
  exact ⟨mbr_e7 _ _ _, nd_mk (decide_eq_true (prw h (i := 2) (j := 3) (by simp) (by simp) (by decide)).1) ⟨mbr_e7 _ _ _, nf_mk (decide_eq_false (prw h (i := 3) (j := 4) (by simp) (by simp) (by decide)).2) ⟨mbr_e7 _ _ _, nf_mk (cz_f hm) ⟨mbr_e7 _ _ _, cz_t hm⟩⟩⟩⟩
theorem ma_5_4 {c : Nat} (p0 p1 p2 p3 p4 : ValLaw.W × ValLaw.T c) (h : ([p0, p1, p2, p3, p4] : List (ValLaw.W × ValLaw.T c)).map (·.1) |>.Sublist ValLaw.names6) : FnOK 0 Tryz.prog 36 ⟨[fz ⟨[mbr p0.1 (enc c p0.2), mbr p1.1 (enc c p1.2), mbr p2.1 (enc c p2.2), mbr p3.1 (enc c p3.2), mbr p4.1 (enc c p4.2)]⟩, .string (bl p4.1)]⟩ h0 (fun v _ => v = .tuple ⟨[.int .i64 4, .bool true]⟩) := by
  have hm : p4.1 ∈ ValLaw.names6 := h.subset (by simp)
  have e0 := ma_e5_4 (mbr p0.1 (enc c p0.2)) (mbr p1.1 (enc c p1.2)) (mbr p2.1 (enc c p2.2)) (mbr p3.1 (enc c p3.2)) (mbr p4.1 (enc c p4.2)) (bl p4.1) (fun v => v = .tuple ⟨[.int .i64 4, .bool true]⟩)
  refine FnOK.ftree SP0_ok mixed Tryz.func36 someMA e0 ?_
  exact ⟨mbr_e7 _ _ _, nd_mk (decide_eq_true (prw h (i := 2) (j := 4) (by simp) (by simp) (by decide)).1) ⟨mbr_e7 _ _ _, nf_mk (cz_f hm) ⟨mbr_e7 _ _ _, nd_mk (decide_eq_true (prw h (i := 3) (j := 4) (by simp) (by simp) (by decide)).1) ⟨mbr_e7 _ _ _, cz_t hm⟩⟩⟩⟩
theorem ma_6_0 {c : Nat} (p0 p1 p2 p3 p4 p5 : ValLaw.W × ValLaw.T c) (h : ([p0, p1, p2, p3, p4, p5] : List (ValLaw.W × ValLaw.T c)).map (·.1) |>.Sublist ValLaw.names6) : FnOK 0 Tryz.prog 36 ⟨[fz ⟨[mbr p0.1 (enc c p0.2), mbr p1.1 (enc c p1.2), mbr p2.1 (enc c p2.2), mbr p3.1 (enc c p3.2), mbr p4.1 (enc c p4.2), mbr p5.1 (enc c p5.2)]⟩, .string (bl p0.1)]⟩ h0 (fun v _ => v = .tuple ⟨[.int .i64 0, .bool true]⟩) := by
  have hm : p0.1 ∈ ValLaw.names6 := h.subset (by simp)
  have e0 := ma_e6_0 (mbr p0.1 (enc c p0.2)) (mbr p1.1 (enc c p1.2)) (mbr p2.1 (enc c p2.2)) (mbr p3.1 (enc c p3.2)) (mbr p4.1 (enc c p4.2)) (mbr p5.1 (enc c p5.2)) (bl p0.1) (fun v => v = .tuple ⟨[.int .i64 0, .bool true]⟩)
  refine FnOK.ftree SP0_ok mixed Tryz.func36 someMA e0 ?_
  exact ⟨mbr_e7 _ _ _, nf_mk (decide_eq_false (prw h (i := 0) (j := 3) (by simp) (by simp) (by decide)).2) ⟨mbr_e7 _ _ _, nf_mk (decide_eq_false (prw h (i := 0) (j := 1) (by simp) (by simp) (by decide)).2) ⟨mbr_e7 _ _ _, nf_mk (cz_f hm) ⟨mbr_e7 _ _ _, cz_t hm⟩⟩⟩⟩
theorem ma_6_1 {c : Nat} (p0 p1 p2 p3 p4 p5 : ValLaw.W × ValLaw.T c) (h : ([p0, p1, p2, p3, p4, p5] : List (ValLaw.W × ValLaw.T c)).map (·.1) |>.Sublist ValLaw.names6) : FnOK 0 Tryz.prog 36 ⟨[fz ⟨[mbr p0.1 (enc c p0.2), mbr p1.1 (enc c p1.2), mbr p2.1 (enc c p2.2), mbr p3.1 (enc c p3.2), mbr p4.1 (enc c p4.2), mbr p5.1 (enc c p5.2)]⟩, .string (bl p1.1)]⟩ h0 (fun v _ => v = .tuple ⟨[.int .i64 1, .bool true]⟩) := by
  have hm : p1.1 ∈ ValLaw.names6 := h.subset (by simp)
  have e0 := ma_e6_1 (mbr p0.1 (enc c p0.2)) (mbr p1.1 (enc c p1.2)) (mbr p2.1 (enc c p2.2)) (mbr p3.1 (enc c p3.2)) (mbr p4.1 (enc c p4.2)) (mbr p5.1 (enc c p5.2)) (bl p1.1) (fun v => v = .tuple ⟨[.int .i64 1, .bool true]⟩)
  refine FnOK.ftree SP0_ok mixed Tryz.func36 someMA e0 ?_
  exact ⟨mbr_e7 _ _ _, nf_mk (decide_eq_false (prw h (i := 1) (j := 3) (by simp) (by simp) (by decide)).2) ⟨mbr_e7 _ _ _, nf_mk (cz_f hm) ⟨mbr_e7 _ _ _, nd_mk (decide_eq_true (prw h (i := 0) (j := 1) (by simp) (by simp) (by decide)).1) ⟨mbr_e7 _ _ _, cz_t hm⟩⟩⟩⟩
theorem ma_6_2 {c : Nat} (p0 p1 p2 p3 p4 p5 : ValLaw.W × ValLaw.T c) (h : ([p0, p1, p2, p3, p4, p5] : List (ValLaw.W × ValLaw.T c)).map (·.1) |>.Sublist ValLaw.names6) : FnOK 0 Tryz.prog 36 ⟨[fz ⟨[mbr p0.1 (enc c p0.2), mbr p1.1 (enc c p1.2), mbr p2.1 (enc c p2.2), mbr p3.1 (enc c p3.2), mbr p4.1 (enc c p4.2), mbr p5.1 (enc c p5.2)]⟩, .string (bl p2.1)]⟩ h0 (fun v _ => v = .tuple ⟨[.int .i64 2, .bool true]⟩) := by
  have hm : p2.1 ∈ ValLaw.names6 := h.subset (by simp)
  have e0 := ma_e6_2 (mbr p0.1 (enc c p0.2)) (mbr p1.1 (enc c p1.2)) (mbr p2.1 (enc c p2.2)) (mbr p3.1 (enc c p3.2)) (mbr p4.1 (enc c p4.2)) (mbr p5.1 (enc c p5.2)) (bl p2.1) (fun v => v = .tuple ⟨[.int .i64 2, .bool true]⟩)
  refine FnOK.ftree SP0_ok mixed Tryz.func36 someMA e0 ?_
  exact ⟨mbr_e7 _ _ _, nf_mk (decide_eq_false (prw h (i := 2) (j := 3) (by simp) (by simp) (by decide)).2) ⟨mbr_e7 _ _ _, nd_mk (decide_eq_true (prw h (i := 1) (j := 2) (by simp) (by simp) (by decide)).1) ⟨mbr_e7 _ _ _, nf_mk (cz_f hm) ⟨mbr_e7 _ _ _, cz_t hm⟩⟩⟩⟩
theorem ma_6_3 {c : Nat} (p0 p1 p2 p3 p4 p5 : ValLaw.W × ValLaw.T c) (h : ([p0, p1, p2, p3, p4, p5] : List (ValLaw.W × ValLaw.T c)).map (·.1) |>.Sublist ValLaw.names6) : FnOK 0 Tryz.prog 36 ⟨[fz ⟨[mbr p0.1 (enc c p0.2), mbr p1.1 (enc c p1.2), mbr p2.1 (enc c p2.2), mbr p3.1 (enc c p3.2), mbr p4.1 (enc c p4.2), mbr p5.1 (enc c p5.2)]⟩, .string (bl p3.1)]⟩ h0 (fun v _ => v = .tuple ⟨[.int .i64 3, .bool true]⟩) := by
  have hm : p3.1 ∈ ValLaw.names6 := h.subset (by simp)
  have e0 := ma_e6_3 (mbr p0.1 (enc c p0.2)) (mbr p1.1 (enc c p1.2)) (mbr p2.1 (enc c p2.2)) (mbr p3.1 (enc c p3.2)) (mbr p4.1 (enc c p4.2)) (mbr p5.1 (enc c p5.2)) (bl p3.1) (fun v => v = .tuple ⟨[.int .i64 3, .bool true]⟩)
  refine FnOK.ftree SP0_ok mixed Tryz.func36 someMA e0 ?_
  exact ⟨mbr_e7 _ _ _, nf_mk (cz_f hm) ⟨mbr_e7 _ _ _, nd_mk (decide_eq_true (prw h (i := 1) (j := 3) (by simp) (by simp) (by decide)).1) ⟨mbr_e7 _ _ _, nd_mk (decide_eq_true (prw h (i := 2) (j := 3) (by simp) (by simp) (by decide)).1) ⟨mbr_e7 _ _ _, cz_t hm⟩⟩⟩⟩
theorem ma_6_4 {c : Nat} (p0 p1 p2 p3 p4 p5 : ValLaw.W × ValLaw.T c) (h : ([p0, p1, p2, p3, p4, p5] : List (ValLaw.W × ValLaw.T c)).map (·.1) |>.Sublist ValLaw.names6) : FnOK 0 Tryz.prog 36 ⟨[fz ⟨[mbr p0.1 (enc c p0.2), mbr p1.1 (enc c p1.2), mbr p2.1 (enc c p2.2), mbr p3.1 (enc c p3.2), mbr p4.1 (enc c p4.2), mbr p5.1 (enc c p5.2)]⟩, .string (bl p4.1)]⟩ h0 (fun v _ => v = .tuple ⟨[.int .i64 4, .bool true]⟩) := by
  have hm : p4.1 ∈ ValLaw.names6 := h.subset (by simp)
  have e0 := ma_e6_4 (mbr p0.1 (enc c p0.2)) (mbr p1.1 (enc c p1.2)) (mbr p2.1 (enc c p2.2)) (mbr p3.1 (enc c p3.2)) (mbr p4.1 (enc c p4.2)) (mbr p5.1 (enc c p5.2)) (bl p4.1) (fun v => v = .tuple ⟨[.int .i64 4, .bool true]⟩)
  refine FnOK.ftree SP0_ok mixed Tryz.func36 someMA e0 ?_
  exact ⟨mbr_e7 _ _ _, nd_mk (decide_eq_true (prw h (i := 3) (j := 4) (by simp) (by simp) (by decide)).1) ⟨mbr_e7 _ _ _, nf_mk (decide_eq_false (prw h (i := 4) (j := 5) (by simp) (by simp) (by decide)).2) ⟨mbr_e7 _ _ _, nf_mk (cz_f hm) ⟨mbr_e7 _ _ _, cz_t hm⟩⟩⟩⟩
theorem ma_6_5 {c : Nat} (p0 p1 p2 p3 p4 p5 : ValLaw.W × ValLaw.T c) (h : ([p0, p1, p2, p3, p4, p5] : List (ValLaw.W × ValLaw.T c)).map (·.1) |>.Sublist ValLaw.names6) : FnOK 0 Tryz.prog 36 ⟨[fz ⟨[mbr p0.1 (enc c p0.2), mbr p1.1 (enc c p1.2), mbr p2.1 (enc c p2.2), mbr p3.1 (enc c p3.2), mbr p4.1 (enc c p4.2), mbr p5.1 (enc c p5.2)]⟩, .string (bl p5.1)]⟩ h0 (fun v _ => v = .tuple ⟨[.int .i64 5, .bool true]⟩) := by
  have hm : p5.1 ∈ ValLaw.names6 := h.subset (by simp)
  have e0 := ma_e6_5 (mbr p0.1 (enc c p0.2)) (mbr p1.1 (enc c p1.2)) (mbr p2.1 (enc c p2.2)) (mbr p3.1 (enc c p3.2)) (mbr p4.1 (enc c p4.2)) (mbr p5.1 (enc c p5.2)) (bl p5.1) (fun v => v = .tuple ⟨[.int .i64 5, .bool true]⟩)
  refine FnOK.ftree SP0_ok mixed Tryz.func36 someMA e0 ?_
  exact ⟨mbr_e7 _ _ _, nd_mk (decide_eq_true (prw h (i := 3) (j := 5) (by simp) (by simp) (by decide)).1) ⟨mbr_e7 _ _ _, nf_mk (cz_f hm) ⟨mbr_e7 _ _ _, nd_mk (decide_eq_true (prw h (i := 4) (j := 5) (by simp) (by simp) (by decide)).1) ⟨mbr_e7 _ _ _, cz_t hm⟩⟩⟩⟩
theorem ma_1 {c : Nat} (p0 : ValLaw.W × ValLaw.T c) (h : ([p0] : List (ValLaw.W × ValLaw.T c)).map (·.1) |>.Sublist ValLaw.names6) : ∀ (i : Nat) (p : ValLaw.W × ValLaw.T c), ([p0] : List (ValLaw.W × ValLaw.T c))[i]? = some p → MaF c [p0] i p
  | 0, p, hi => by
    cases hi
    exact ma_1_0 p0 h
  | i + 1, p, hi => by simp at hi
theorem ma_2 {c : Nat} (p0 p1 : ValLaw.W × ValLaw.T c) (h : ([p0, p1] : List (ValLaw.W × ValLaw.T c)).map (·.1) |>.Sublist ValLaw.names6) : ∀ (i : Nat) (p : ValLaw.W × ValLaw.T c), ([p0, p1] : List (ValLaw.W × ValLaw.T c))[i]? = some p → MaF c [p0, p1] i p
  | 0, p, hi => by
    cases hi
    exact ma_2_0 p0 p1 h
  | 1, p, hi => by
    cases hi
    exact ma_2_1 p0 p1 h
  | i + 2, p, hi => by simp at hi
theorem ma_3 {c : Nat} (p0 p1 p2 : ValLaw.W × ValLaw.T c) (h : ([p0, p1, p2] : List (ValLaw.W × ValLaw.T c)).map (·.1) |>.Sublist ValLaw.names6) : ∀ (i : Nat) (p : ValLaw.W × ValLaw.T c), ([p0, p1, p2] : List (ValLaw.W × ValLaw.T c))[i]? = some p → MaF c [p0, p1, p2] i p
  | 0, p, hi => by
    cases hi
    exact ma_3_0 p0 p1 p2 h
  | 1, p, hi => by
    cases hi
    exact ma_3_1 p0 p1 p2 h
  | 2, p, hi => by
    cases hi
    exact ma_3_2 p0 p1 p2 h
  | i + 3, p, hi => by simp at hi
theorem ma_4 {c : Nat} (p0 p1 p2 p3 : ValLaw.W × ValLaw.T c) (h : ([p0, p1, p2, p3] : List (ValLaw.W × ValLaw.T c)).map (·.1) |>.Sublist ValLaw.names6) : ∀ (i : Nat) (p : ValLaw.W × ValLaw.T c), ([p0, p1, p2, p3] : List (ValLaw.W × ValLaw.T c))[i]? = some p → MaF c [p0, p1, p2, p3] i p
  | 0, p, hi => by
    cases hi
    exact ma_4_0 p0 p1 p2 p3 h
  | 1, p, hi => by
    cases hi
    exact ma_4_1 p0 p1 p2 p3 h
  | 2, p, hi => by
    cases hi
    exact ma_4_2 p0 p1 p2 p3 h
  | 3, p, hi => by
    cases hi
    exact ma_4_3 p0 p1 p2 p3 h
  | i + 4, p, hi => by simp at hi
theorem ma_5 {c : Nat} (p0 p1 p2 p3 p4 : ValLaw.W × ValLaw.T c) (h : ([p0, p1, p2, p3, p4] : List (ValLaw.W × ValLaw.T c)).map (·.1) |>.Sublist ValLaw.names6) : ∀ (i : Nat) (p : ValLaw.W × ValLaw.T c), ([p0, p1, p2, p3, p4] : List (ValLaw.W × ValLaw.T c))[i]? = some p → MaF c [p0, p1, p2, p3, p4] i p
  | 0, p, hi => by
    cases hi
    exact ma_5_0 p0 p1 p2 p3 p4 h
  | 1, p, hi => by
    cases hi
    exact ma_5_1 p0 p1 p2 p3 p4 h
  | 2, p, hi => by
    cases hi
    exact ma_5_2 p0 p1 p2 p3 p4 h
  | 3, p, hi => by
    cases hi
    exact ma_5_3 p0 p1 p2 p3 p4 h
  | 4, p, hi => by
    cases hi
    exact ma_5_4 p0 p1 p2 p3 p4 h
  | i + 5, p, hi => by simp at hi
theorem ma_6 {c : Nat} (p0 p1 p2 p3 p4 p5 : ValLaw.W × ValLaw.T c) (h : ([p0, p1, p2, p3, p4, p5] : List (ValLaw.W × ValLaw.T c)).map (·.1) |>.Sublist ValLaw.names6) : ∀ (i : Nat) (p : ValLaw.W × ValLaw.T c), ([p0, p1, p2, p3, p4, p5] : List (ValLaw.W × ValLaw.T c))[i]? = some p → MaF c [p0, p1, p2, p3, p4, p5] i p
  | 0, p, hi => by
    cases hi
    exact ma_6_0 p0 p1 p2 p3 p4 p5 h
  | 1, p, hi => by
    cases hi
    exact ma_6_1 p0 p1 p2 p3 p4 p5 h
  | 2, p, hi => by
    cases hi
    exact ma_6_2 p0 p1 p2 p3 p4 p5 h
  | 3, p, hi => by
    cases hi
    exact ma_6_3 p0 p1 p2 p3 p4 p5 h
  | 4, p, hi => by
    cases hi
    exact ma_6_4 p0 p1 p2 p3 p4 p5 h
  | 5, p, hi => by
    cases hi
    exact ma_6_5 p0 p1 p2 p3 p4 p5 h
  | i + 6, p, hi => by simp at hi
theorem ma_fn {c : Nat} (M : List (ValLaw.W × ValLaw.T c)) (h : (M.map (·.1)).Sublist ValLaw.names6) (i : Nat) (p : ValLaw.W × ValLaw.T c) (hi : M[i]? = some p) : MaF c M i p := by
  match M, h, hi with
  | [], _, hi => simp at hi
  | [p0], h, hi => exact ma_1 p0 h i p hi
  | [p0, p1], h, hi => exact ma_2 p0 p1 h i p hi
  | [p0, p1, p2], h, hi => exact ma_3 p0 p1 p2 h i p hi
  | [p0, p1, p2, p3], h, hi => exact ma_4 p0 p1 p2 p3 h i p hi
  | [p0, p1, p2, p3, p4], h, hi => exact ma_5 p0 p1 p2 p3 p4 h i p hi
  | [p0, p1, p2, p3, p4, p5], h, hi => exact ma_6 p0 p1 p2 p3 p4 p5 h i p hi
  | p0 :: p1 :: p2 :: p3 :: p4 :: p5 :: p6 :: l, h, _ =>
    have := h.length_le
    simp [ValLaw.names6] at this
/-! at -/
noncomputable def spMa (l : Value) (w : ByteArray) (i : Int) (f : FuncId) (args : Array Value) (h : AH) : Option (Bool × Value × AH) :=
  cond (Nat.beq f 36) (match args with
    | ⟨[y, t]⟩ => some (eqV y l && eqV t (.string w), .tuple ⟨[.int .i64 i, .bool true]⟩, h)
    | _ => none) none
noncomputable def SMa (l : Value) (w : ByteArray) (i : Int) : SC := ⟨idn, spMa l w i, true, true⟩
theorem spMa_ok {c : Nat} {M : List (ValLaw.W × ValLaw.T c)} {i : Nat} {p : ValLaw.W × ValLaw.T c} (hF : MaF c M i p) : SpOK (spMa (fz ⟨M.map fun p => mbr p.1 (enc c p.2)⟩) (bl p.1) (i : Int)) := by
  intro f args h v h' hs
  unfold spMa at hs
  obtain ⟨hf, hs2⟩ := cond_some hs
  clear hs
  have := Nat.eq_of_beq_eq_true hf
  subst this
  split at hs2
  · injection hs2 with hs
    injection hs with hb hs
    injection hs with hv hh
    subst hv hh
    rw [Bool.and_eq_true] at hb
    have b1 := eqV_eq hb.1
    have b2 := eqV_eq hb.2
    subst b1 b2
    exact ⟨FnOK.pure hF rfl rfl h, Nat.le_refl _⟩
  · cases hs2
theorem someAT : Tryz.f18.body.isSome = true := by kernel_rfl
theorem at_i (f : Bool) (m i : Int) (s : ByteArray) (xs : List Value) (Q : Value → Prop) : ffn Tryz.prog SP0 [(215497, true)] 900 [] Tryz.f18 [vV 4 f m s xs [], .agg ⟨[.bool false, .string ⟨#[]⟩, .int .i64 i]⟩] h0 (fun v _ => Q v) =
    nd (decide (i < ((Array.mk xs).size : Int))) (nd (decide (0 ≤ i) && decide (i < ((Array.mk xs).size : Int)) && Nat.beq (e6 (elV xs i)).cells.size 6) (elV xs i = e6 (elV xs i) ∧ Q (.tuple ⟨[e6 (elV xs i), .bool true]⟩))) := by kernel_rfl
theorem at_m (f : Bool) (m i : Int) (s w : ByteArray) (ys : List Value) (Q : Value → Prop) : ffn Tryz.prog (SMa (fz ⟨ys⟩) w i) [] 900 [] Tryz.f18 [vV 5 f m s [] ys, .agg ⟨[.bool true, .string w, .int .i64 0]⟩] h0 (fun v _ => Q v) =
    nd (eqV (fz ⟨ys⟩) (fz ⟨ys⟩) && eqV (.string w) (.string w)) (nd (decide (0 ≤ i) && decide (i < ((Array.mk ys).size : Int)) && Nat.beq (e7 (elV ys i)).cells.size 7) (elV ys i = e7 (elV ys i) ∧ Q (.tuple ⟨[m6 (elV ys i), .bool true]⟩))) := by kernel_rfl
def AtF (n : Nat) (v : ValLaw.T (n + 1)) (s : ValLaw.Stp) (x : ValLaw.T n) : Prop := FnOK 0 Tryz.prog 18 ⟨[enc (n + 1) v, stepV s]⟩ h0 (fun u _ => u = .tuple ⟨[enc n x, .bool true]⟩)
theorem at_fn {n : Nat} {v : ValLaw.T (n + 1)} (hg : ValLaw.GR (n + 1) v) {s : ValLaw.Stp} {r : List ValLaw.Stp} (h : ValLaw.At (n + 1) v (s :: r)) : ∃ x : ValLaw.T n, ValLaw.GR n x ∧ ValLaw.At n x r ∧ AtF n v s x := by
  obtain ⟨⟨k, f, m, w⟩, X, M⟩ := v
  obtain ⟨_, v2, v3, v4, v5, v6, v7⟩ := hg
  simp only at v2 v3 v4 v5 v6 v7
  rcases h with ⟨i, x, rfl, h1, h2⟩ | ⟨i, p, rfl, h1, h2⟩
  · have h1 : X[i]? = some x := h1
    have hi : i < X.length := (List.getElem?_eq_some_iff.1 h1).1
    refine ⟨x, v4 x (List.mem_of_getElem? h1), h2, ?_⟩
    have hX : X ≠ [] := fun q => by rw [q] at h1; simp at h1
    have hk : k = 4 := by
      rcases v2 with q | q
      · omega
      · exact absurd q hX
    have hM : M = [] := by
      rcases v3 with q | q
      · omega
      · exact q
    subst hk hM
    have ex : elV (X.map (enc n)) (i : Int) = enc n x := by
      show (X.map (enc n)).getD i undef = _
      rw [List.getD_eq_getElem?_getD, List.getElem?_map, h1]
      rfl
    have e0 := at_i f m (i : Int) (bl w) (X.map (enc n)) (fun u => u = .tuple ⟨[enc n x, .bool true]⟩)
    refine FnOK.ftree SP0_ok mixed Tryz.func18 someAT e0 (nd_mk (decide_eq_true ?_) (nd_mk ?_ ⟨?_, ?_⟩))
    · show (i : Int) < ((X.map (enc n)).length : Int)
      rw [List.length_map]; omega
    · simp only [Bool.and_eq_true, decide_eq_true_eq]
      exact ⟨⟨by omega, by show (i : Int) < ((X.map (enc n)).length : Int); rw [List.length_map]; omega⟩, rfl⟩
    · rw [ex]; exact enc_e6 n x
    · rw [ex, ← enc_e6 n x]
  · have h1 : M[i]? = some p := h1
    have hi : i < M.length := (List.getElem?_eq_some_iff.1 h1).1
    refine ⟨p.2, v5 p (List.mem_of_getElem? h1), h2, ?_⟩
    have hM : M ≠ [] := fun q => by rw [q] at h1; simp at h1
    have hk : k = 5 := by
      rcases v3 with q | q
      · omega
      · exact absurd q hM
    have hX : X = [] := by
      rcases v2 with q | q
      · omega
      · exact q
    subst hk hX
    have hF := ma_fn M v7 i p h1
    have ex : elV (M.map fun p => mbr p.1 (enc n p.2)) (i : Int) = mbr p.1 (enc n p.2) := by
      show (M.map fun p => mbr p.1 (enc n p.2)).getD i undef = _
      rw [List.getD_eq_getElem?_getD, List.getElem?_map, h1]
      rfl
    have e0 := at_m f m (i : Int) (bl w) (bl p.1) (M.map fun p => mbr p.1 (enc n p.2)) (fun u => u = .tuple ⟨[enc n p.2, .bool true]⟩)
    refine FnOK.ftree (spMa_ok hF).cfg mixed Tryz.func18 someAT e0 (nd_mk (by rw [eqV_self, eqV_self]; rfl) (nd_mk ?_ ⟨?_, ?_⟩))
    · simp only [Bool.and_eq_true, decide_eq_true_eq]
      exact ⟨⟨by omega, by show (i : Int) < ((M.map fun p => mbr p.1 (enc n p.2)).length : Int); rw [List.length_map]; omega⟩, rfl⟩
    · rw [ex]; exact mbr_e7 _ _ _
    · rw [ex, mbr_m6]
end Go.Proofs.YtmclppkligkooaaGreatDoor
