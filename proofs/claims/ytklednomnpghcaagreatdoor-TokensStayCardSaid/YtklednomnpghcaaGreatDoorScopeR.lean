/-
  'Rising' as a specification.
-/
import Derived.Test.YtklednomnpghcaaGreatDoorScopeE
namespace Go.Proofs.YtklednomnpghcaaGreatDoor
open Go.Ev Go.RowKit ScopeLaw

theorem rs1 (s0 : ByteArray) (Q : Value → Option Obj → Prop) : ffn Tryz.prog SR [] 1000 [] Tryz.f69 [fz ⟨[.string s0]⟩] h0 (fun v h => Q v (h.get (blkOf v))) =
    cond (strR (sortC [.string s0]) && Nat.beq (sortC [.string s0]).length 1 && true) (Q (.slice (some ⟨1, 0, none⟩) (cutN (sortC [.string s0])) 1) (some (.cells ⟨cutC (sortC [.string s0])⟩ 9 (0, 0)))) False := by kernel_rfl
theorem rs2 (s0 s1 : ByteArray) (Q : Value → Option Obj → Prop) : ffn Tryz.prog SR [] 1000 [] Tryz.f69 [fz ⟨[.string s0, .string s1]⟩] h0 (fun v h => Q v (h.get (blkOf v))) =
    cond (strR (sortC [.string s0, .string s1]) && Nat.beq (sortC [.string s0, .string s1]).length 2 && true) (Q (.slice (some ⟨1, 0, none⟩) (cutN (sortC [.string s0, .string s1])) 2) (some (.cells ⟨cutC (sortC [.string s0, .string s1])⟩ 9 (0, 0)))) False := by kernel_rfl
theorem rs3 (s0 s1 s2 : ByteArray) (Q : Value → Option Obj → Prop) : ffn Tryz.prog SR [] 1000 [] Tryz.f69 [fz ⟨[.string s0, .string s1, .string s2]⟩] h0 (fun v h => Q v (h.get (blkOf v))) =
    cond (strR (sortC [.string s0, .string s1, .string s2]) && Nat.beq (sortC [.string s0, .string s1, .string s2]).length 3 && true) (Q (.slice (some ⟨1, 0, none⟩) (cutN (sortC [.string s0, .string s1, .string s2])) 3) (some (.cells ⟨cutC (sortC [.string s0, .string s1, .string s2])⟩ 9 (0, 0)))) False := by kernel_rfl
theorem rs4 (s0 s1 s2 s3 : ByteArray) (Q : Value → Option Obj → Prop) : ffn Tryz.prog SR [] 1000 [] Tryz.f69 [fz ⟨[.string s0, .string s1, .string s2, .string s3]⟩] h0 (fun v h => Q v (h.get (blkOf v))) =
    cond (strR (sortC [.string s0, .string s1, .string s2, .string s3]) && Nat.beq (sortC [.string s0, .string s1, .string s2, .string s3]).length 4 && true) (Q (.slice (some ⟨1, 0, none⟩) (cutN (sortC [.string s0, .string s1, .string s2, .string s3])) 4) (some (.cells ⟨cutC (sortC [.string s0, .string s1, .string s2, .string s3])⟩ 9 (0, 0)))) False := by kernel_rfl
theorem rs5 (s0 s1 s2 s3 s4 : ByteArray) (Q : Value → Option Obj → Prop) : ffn Tryz.prog SR [] 1000 [] Tryz.f69 [fz ⟨[.string s0, .string s1, .string s2, .string s3, .string s4]⟩] h0 (fun v h => Q v (h.get (blkOf v))) =
    cond (strR (sortC [.string s0, .string s1, .string s2, .string s3, .string s4]) && Nat.beq (sortC [.string s0, .string s1, .string s2, .string s3, .string s4]).length 5 && true) (Q (.slice (some ⟨1, 0, none⟩) (cutN (sortC [.string s0, .string s1, .string s2, .string s3, .string s4])) 5) (some (.cells ⟨cutC (sortC [.string s0, .string s1, .string s2, .string s3, .string s4])⟩ 9 (0, 0)))) False := by kernel_rfl
theorem rs6 (s0 s1 s2 s3 s4 s5 : ByteArray) (Q : Value → Option Obj → Prop) : ffn Tryz.prog SR [] 1000 [] Tryz.f69 [fz ⟨[.string s0, .string s1, .string s2, .string s3, .string s4, .string s5]⟩] h0 (fun v h => Q v (h.get (blkOf v))) =
    cond (strR (sortC [.string s0, .string s1, .string s2, .string s3, .string s4, .string s5]) && Nat.beq (sortC [.string s0, .string s1, .string s2, .string s3, .string s4, .string s5]).length 6 && true) (Q (.slice (some ⟨1, 0, none⟩) (cutN (sortC [.string s0, .string s1, .string s2, .string s3, .string s4, .string s5])) 6) (some (.cells ⟨cutC (sortC [.string s0, .string s1, .string s2, .string s3, .string s4, .string s5])⟩ 9 (0, 0)))) False := by kernel_rfl
theorem rs7 (s0 s1 s2 s3 s4 s5 s6 : ByteArray) (Q : Value → Option Obj → Prop) : ffn Tryz.prog SR [] 1000 [] Tryz.f69 [fz ⟨[.string s0, .string s1, .string s2, .string s3, .string s4, .string s5, .string s6]⟩] h0 (fun v h => Q v (h.get (blkOf v))) =
    cond (strR (sortC [.string s0, .string s1, .string s2, .string s3, .string s4, .string s5, .string s6]) && Nat.beq (sortC [.string s0, .string s1, .string s2, .string s3, .string s4, .string s5, .string s6]).length 7 && true) (Q (.slice (some ⟨1, 0, none⟩) (cutN (sortC [.string s0, .string s1, .string s2, .string s3, .string s4, .string s5, .string s6])) 7) (some (.cells ⟨cutC (sortC [.string s0, .string s1, .string s2, .string s3, .string s4, .string s5, .string s6])⟩ 9 (0, 0)))) False := by kernel_rfl
theorem rs8 (s0 s1 s2 s3 s4 s5 s6 s7 : ByteArray) (Q : Value → Option Obj → Prop) : ffn Tryz.prog SR [] 1000 [] Tryz.f69 [fz ⟨[.string s0, .string s1, .string s2, .string s3, .string s4, .string s5, .string s6, .string s7]⟩] h0 (fun v h => Q v (h.get (blkOf v))) =
    cond (strR (sortC [.string s0, .string s1, .string s2, .string s3, .string s4, .string s5, .string s6, .string s7]) && Nat.beq (sortC [.string s0, .string s1, .string s2, .string s3, .string s4, .string s5, .string s6, .string s7]).length 8 && true) (Q (.slice (some ⟨1, 0, none⟩) (cutN (sortC [.string s0, .string s1, .string s2, .string s3, .string s4, .string s5, .string s6, .string s7])) 8) (some (.cells ⟨cutC (sortC [.string s0, .string s1, .string s2, .string s3, .string s4, .string s5, .string s6, .string s7])⟩ 9 (0, 0)))) False := by kernel_rfl
theorem rs9 (s0 s1 s2 s3 s4 s5 s6 s7 s8 : ByteArray) (Q : Value → Option Obj → Prop) : ffn Tryz.prog SR [] 1000 [] Tryz.f69 [fz ⟨[.string s0, .string s1, .string s2, .string s3, .string s4, .string s5, .string s6, .string s7, .string s8]⟩] h0 (fun v h => Q v (h.get (blkOf v))) =
    cond (strR (sortC [.string s0, .string s1, .string s2, .string s3, .string s4, .string s5, .string s6, .string s7, .string s8]) && Nat.beq (sortC [.string s0, .string s1, .string s2, .string s3, .string s4, .string s5, .string s6, .string s7, .string s8]).length 9 && true) (Q (.slice (some ⟨1, 0, none⟩) (cutN (sortC [.string s0, .string s1, .string s2, .string s3, .string s4, .string s5, .string s6, .string s7, .string s8])) 9) (some (.cells ⟨cutC (sortC [.string s0, .string s1, .string s2, .string s3, .string s4, .string s5, .string s6, .string s7, .string s8])⟩ 9 (0, 0)))) False := by kernel_rfl
theorem rs10 (s0 s1 s2 s3 s4 s5 s6 s7 s8 s9 : ByteArray) (Q : Value → Option Obj → Prop) : ffn Tryz.prog SR [] 1000 [] Tryz.f69 [fz ⟨[.string s0, .string s1, .string s2, .string s3, .string s4, .string s5, .string s6, .string s7, .string s8, .string s9]⟩] h0 (fun v h => Q v (h.get (blkOf v))) =
    cond (strR (sortC [.string s0, .string s1, .string s2, .string s3, .string s4, .string s5, .string s6, .string s7, .string s8, .string s9]) && Nat.beq (sortC [.string s0, .string s1, .string s2, .string s3, .string s4, .string s5, .string s6, .string s7, .string s8, .string s9]).length 10 && true) (Q (.slice (some ⟨1, 0, none⟩) (cutN (sortC [.string s0, .string s1, .string s2, .string s3, .string s4, .string s5, .string s6, .string s7, .string s8, .string s9])) 10) (some (.cells ⟨cutC (sortC [.string s0, .string s1, .string s2, .string s3, .string s4, .string s5, .string s6, .string s7, .string s8, .string s9])⟩ 9 (0, 0)))) False := by kernel_rfl
theorem rs11 (s0 s1 s2 s3 s4 s5 s6 s7 s8 s9 s10 : ByteArray) (Q : Value → Option Obj → Prop) : ffn Tryz.prog SR [] 1000 [] Tryz.f69 [fz ⟨[.string s0, .string s1, .string s2, .string s3, .string s4, .string s5, .string s6, .string s7, .string s8, .string s9, .string s10]⟩] h0 (fun v h => Q v (h.get (blkOf v))) =
    cond (strR (sortC [.string s0, .string s1, .string s2, .string s3, .string s4, .string s5, .string s6, .string s7, .string s8, .string s9, .string s10]) && Nat.beq (sortC [.string s0, .string s1, .string s2, .string s3, .string s4, .string s5, .string s6, .string s7, .string s8, .string s9, .string s10]).length 11 && true) (Q (.slice (some ⟨1, 0, none⟩) (cutN (sortC [.string s0, .string s1, .string s2, .string s3, .string s4, .string s5, .string s6, .string s7, .string s8, .string s9, .string s10])) 11) (some (.cells ⟨cutC (sortC [.string s0, .string s1, .string s2, .string s3, .string s4, .string s5, .string s6, .string s7, .string s8, .string s9, .string s10])⟩ 9 (0, 0)))) False := by kernel_rfl
theorem rs12 (s0 s1 s2 s3 s4 s5 s6 s7 s8 s9 s10 s11 : ByteArray) (Q : Value → Option Obj → Prop) : ffn Tryz.prog SR [] 1000 [] Tryz.f69 [fz ⟨[.string s0, .string s1, .string s2, .string s3, .string s4, .string s5, .string s6, .string s7, .string s8, .string s9, .string s10, .string s11]⟩] h0 (fun v h => Q v (h.get (blkOf v))) =
    cond (strR (sortC [.string s0, .string s1, .string s2, .string s3, .string s4, .string s5, .string s6, .string s7, .string s8, .string s9, .string s10, .string s11]) && Nat.beq (sortC [.string s0, .string s1, .string s2, .string s3, .string s4, .string s5, .string s6, .string s7, .string s8, .string s9, .string s10, .string s11]).length 12 && true) (Q (.slice (some ⟨1, 0, none⟩) (cutN (sortC [.string s0, .string s1, .string s2, .string s3, .string s4, .string s5, .string s6, .string s7, .string s8, .string s9, .string s10, .string s11])) 12) (some (.cells ⟨cutC (sortC [.string s0, .string s1, .string s2, .string s3, .string s4, .string s5, .string s6, .string s7, .string s8, .string s9, .string s10, .string s11])⟩ 9 (0, 0)))) False := by kernel_rfl
theorem rs13 (s0 s1 s2 s3 s4 s5 s6 s7 s8 s9 s10 s11 s12 : ByteArray) (Q : Value → Option Obj → Prop) : ffn Tryz.prog SR [] 1000 [] Tryz.f69 [fz ⟨[.string s0, .string s1, .string s2, .string s3, .string s4, .string s5, .string s6, .string s7, .string s8, .string s9, .string s10, .string s11, .string s12]⟩] h0 (fun v h => Q v (h.get (blkOf v))) =
    cond (strR (sortC [.string s0, .string s1, .string s2, .string s3, .string s4, .string s5, .string s6, .string s7, .string s8, .string s9, .string s10, .string s11, .string s12]) && Nat.beq (sortC [.string s0, .string s1, .string s2, .string s3, .string s4, .string s5, .string s6, .string s7, .string s8, .string s9, .string s10, .string s11, .string s12]).length 13 && true) (Q (.slice (some ⟨1, 0, none⟩) (cutN (sortC [.string s0, .string s1, .string s2, .string s3, .string s4, .string s5, .string s6, .string s7, .string s8, .string s9, .string s10, .string s11, .string s12])) 13) (some (.cells ⟨cutC (sortC [.string s0, .string s1, .string s2, .string s3, .string s4, .string s5, .string s6, .string s7, .string s8, .string s9, .string s10, .string s11, .string s12])⟩ 9 (0, 0)))) False := by kernel_rfl
theorem rs14 (s0 s1 s2 s3 s4 s5 s6 s7 s8 s9 s10 s11 s12 s13 : ByteArray) (Q : Value → Option Obj → Prop) : ffn Tryz.prog SR [] 1000 [] Tryz.f69 [fz ⟨[.string s0, .string s1, .string s2, .string s3, .string s4, .string s5, .string s6, .string s7, .string s8, .string s9, .string s10, .string s11, .string s12, .string s13]⟩] h0 (fun v h => Q v (h.get (blkOf v))) =
    cond (strR (sortC [.string s0, .string s1, .string s2, .string s3, .string s4, .string s5, .string s6, .string s7, .string s8, .string s9, .string s10, .string s11, .string s12, .string s13]) && Nat.beq (sortC [.string s0, .string s1, .string s2, .string s3, .string s4, .string s5, .string s6, .string s7, .string s8, .string s9, .string s10, .string s11, .string s12, .string s13]).length 14 && true) (Q (.slice (some ⟨1, 0, none⟩) (cutN (sortC [.string s0, .string s1, .string s2, .string s3, .string s4, .string s5, .string s6, .string s7, .string s8, .string s9, .string s10, .string s11, .string s12, .string s13])) 14) (some (.cells ⟨cutC (sortC [.string s0, .string s1, .string s2, .string s3, .string s4, .string s5, .string s6, .string s7, .string s8, .string s9, .string s10, .string s11, .string s12, .string s13])⟩ 9 (0, 0)))) False := by kernel_rfl
theorem rs15 (s0 s1 s2 s3 s4 s5 s6 s7 s8 s9 s10 s11 s12 s13 s14 : ByteArray) (Q : Value → Option Obj → Prop) : ffn Tryz.prog SR [] 1000 [] Tryz.f69 [fz ⟨[.string s0, .string s1, .string s2, .string s3, .string s4, .string s5, .string s6, .string s7, .string s8, .string s9, .string s10, .string s11, .string s12, .string s13, .string s14]⟩] h0 (fun v h => Q v (h.get (blkOf v))) =
    cond (strR (sortC [.string s0, .string s1, .string s2, .string s3, .string s4, .string s5, .string s6, .string s7, .string s8, .string s9, .string s10, .string s11, .string s12, .string s13, .string s14]) && Nat.beq (sortC [.string s0, .string s1, .string s2, .string s3, .string s4, .string s5, .string s6, .string s7, .string s8, .string s9, .string s10, .string s11, .string s12, .string s13, .string s14]).length 15 && true) (Q (.slice (some ⟨1, 0, none⟩) (cutN (sortC [.string s0, .string s1, .string s2, .string s3, .string s4, .string s5, .string s6, .string s7, .string s8, .string s9, .string s10, .string s11, .string s12, .string s13, .string s14])) 15) (some (.cells ⟨cutC (sortC [.string s0, .string s1, .string s2, .string s3, .string s4, .string s5, .string s6, .string s7, .string s8, .string s9, .string s10, .string s11, .string s12, .string s13, .string s14])⟩ 9 (0, 0)))) False := by kernel_rfl
theorem rs16 (s0 s1 s2 s3 s4 s5 s6 s7 s8 s9 s10 s11 s12 s13 s14 s15 : ByteArray) (Q : Value → Option Obj → Prop) : ffn Tryz.prog SR [] 1000 [] Tryz.f69 [fz ⟨[.string s0, .string s1, .string s2, .string s3, .string s4, .string s5, .string s6, .string s7, .string s8, .string s9, .string s10, .string s11, .string s12, .string s13, .string s14, .string s15]⟩] h0 (fun v h => Q v (h.get (blkOf v))) =
    cond (strR (sortC [.string s0, .string s1, .string s2, .string s3, .string s4, .string s5, .string s6, .string s7, .string s8, .string s9, .string s10, .string s11, .string s12, .string s13, .string s14, .string s15]) && Nat.beq (sortC [.string s0, .string s1, .string s2, .string s3, .string s4, .string s5, .string s6, .string s7, .string s8, .string s9, .string s10, .string s11, .string s12, .string s13, .string s14, .string s15]).length 16 && true) (Q (.slice (some ⟨1, 0, none⟩) (cutN (sortC [.string s0, .string s1, .string s2, .string s3, .string s4, .string s5, .string s6, .string s7, .string s8, .string s9, .string s10, .string s11, .string s12, .string s13, .string s14, .string s15])) 16) (some (.cells ⟨cutC (sortC [.string s0, .string s1, .string s2, .string s3, .string s4, .string s5, .string s6, .string s7, .string s8, .string s9, .string s10, .string s11, .string s12, .string s13, .string s14, .string s15])⟩ 9 (0, 0)))) False := by kernel_rfl
theorem sortC_len (L : List Value) : (sortC L).length = L.length := by simp [sortC, srt_len]
theorem sortC_str {L : List Value} (h : L.length ≤ 1000) : strR (sortC L) = true := strR_map (by rw [srt_len]; simpa using h)
theorem rs_fin {L : List Value} {n : Nat} (hn : L.length = n) (h16 : n ≤ 16) (hrun : ∀ Q : Value → Option Obj → Prop, ffn Tryz.prog SR [] 1000 [] Tryz.f69 [fz ⟨L⟩] h0 (fun v h => Q v (h.get (blkOf v))) =
      cond (strR (sortC L) && Nat.beq (sortC L).length n && true) (Q (.slice (some ⟨1, 0, none⟩) (cutN (sortC L)) n) (some (.cells ⟨cutC (sortC L)⟩ 9 (0, 0)))) False) :
    FnOK 0 Tryz.prog 69 ⟨[fz ⟨L⟩]⟩ h0 (fun v _ => v = fz ⟨(rising (L.map unS)).map scp⟩) := by
  have hF := FnOK.ftree (p := 0) SR_ok mixed Tryz.func69 some69 (hrun (fun v o => v = .slice (some ⟨1, 0, none⟩) (cutN (sortC L)) n ∧ o = some (.cells ⟨cutC (sortC L)⟩ 9 (0, 0))))
    (need_mk (by rw [sortC_str (by omega), sortC_len, hn, Nat.beq_refl]; rfl) ⟨rfl, rfl⟩)
  refine FnOK.weak1 (hF.mono ?_)
  rintro v g ⟨rfl, hb⟩
  have e : (sortC L).map unS = srt (L.map unS) := un_map _
  have hb : g.get 1 = some (.cells ⟨(cut (srt (L.map unS))).map scp⟩ 9 (0, 0)) := by rw [← e]; exact hb
  have ec : cutN (sortC L) = (rising (L.map unS)).length := by unfold cutN; rw [e]; rfl
  refine ⟨_, _, freezeL (rising (L.map unS)) _ ec.symm ?_ ⟨_, rfl⟩ hb, rfl⟩
  have h1 := cut_le (srt (L.map unS))
  rw [srt_len] at h1
  rw [ec]
  have h2 : (L.map unS).length = n := by simpa using hn
  have h3 : (Go.Lib.compact (srt (L.map unS))).length = (rising (L.map unS)).length := rfl
  omega
theorem rs_fn : ∀ (l : List ByteArray), 1 ≤ l.length → l.length ≤ 16 → FnOK 0 Tryz.prog 69 ⟨[fz ⟨l.map Value.string⟩]⟩ h0 (fun v _ => v = fz ⟨(rising ((l.map Value.string).map unS)).map scp⟩)
  | [], h, _ => by simp at h
  | [s0], _, h => rs_fin (n := 1) rfl (by omega) (rs1 s0)
  | [s0, s1], _, h => rs_fin (n := 2) rfl (by omega) (rs2 s0 s1)
  | [s0, s1, s2], _, h => rs_fin (n := 3) rfl (by omega) (rs3 s0 s1 s2)
  | [s0, s1, s2, s3], _, h => rs_fin (n := 4) rfl (by omega) (rs4 s0 s1 s2 s3)
  | [s0, s1, s2, s3, s4], _, h => rs_fin (n := 5) rfl (by omega) (rs5 s0 s1 s2 s3 s4)
  | [s0, s1, s2, s3, s4, s5], _, h => rs_fin (n := 6) rfl (by omega) (rs6 s0 s1 s2 s3 s4 s5)
  | [s0, s1, s2, s3, s4, s5, s6], _, h => rs_fin (n := 7) rfl (by omega) (rs7 s0 s1 s2 s3 s4 s5 s6)
  | [s0, s1, s2, s3, s4, s5, s6, s7], _, h => rs_fin (n := 8) rfl (by omega) (rs8 s0 s1 s2 s3 s4 s5 s6 s7)
  | [s0, s1, s2, s3, s4, s5, s6, s7, s8], _, h => rs_fin (n := 9) rfl (by omega) (rs9 s0 s1 s2 s3 s4 s5 s6 s7 s8)
  | [s0, s1, s2, s3, s4, s5, s6, s7, s8, s9], _, h => rs_fin (n := 10) rfl (by omega) (rs10 s0 s1 s2 s3 s4 s5 s6 s7 s8 s9)
  | [s0, s1, s2, s3, s4, s5, s6, s7, s8, s9, s10], _, h => rs_fin (n := 11) rfl (by omega) (rs11 s0 s1 s2 s3 s4 s5 s6 s7 s8 s9 s10)
  | [s0, s1, s2, s3, s4, s5, s6, s7, s8, s9, s10, s11], _, h => rs_fin (n := 12) rfl (by omega) (rs12 s0 s1 s2 s3 s4 s5 s6 s7 s8 s9 s10 s11)
  | [s0, s1, s2, s3, s4, s5, s6, s7, s8, s9, s10, s11, s12], _, h => rs_fin (n := 13) rfl (by omega) (rs13 s0 s1 s2 s3 s4 s5 s6 s7 s8 s9 s10 s11 s12)
  | [s0, s1, s2, s3, s4, s5, s6, s7, s8, s9, s10, s11, s12, s13], _, h => rs_fin (n := 14) rfl (by omega) (rs14 s0 s1 s2 s3 s4 s5 s6 s7 s8 s9 s10 s11 s12 s13)
  | [s0, s1, s2, s3, s4, s5, s6, s7, s8, s9, s10, s11, s12, s13, s14], _, h => rs_fin (n := 15) rfl (by omega) (rs15 s0 s1 s2 s3 s4 s5 s6 s7 s8 s9 s10 s11 s12 s13 s14)
  | [s0, s1, s2, s3, s4, s5, s6, s7, s8, s9, s10, s11, s12, s13, s14, s15], _, h => rs_fin (n := 16) rfl (by omega) (rs16 s0 s1 s2 s3 s4 s5 s6 s7 s8 s9 s10 s11 s12 s13 s14 s15)
  | _ :: _ :: _ :: _ :: _ :: _ :: _ :: _ :: _ :: _ :: _ :: _ :: _ :: _ :: _ :: _ :: _ :: _, _, h => by simp at h
theorem str_map : ∀ {vs : List Value}, vs.all isStr = true → vs = (vs.map toStr).map Value.string
  | [], _ => rfl
  | v :: l, h => by
    simp only [List.all_cons, Bool.and_eq_true] at h
    simp only [List.map_cons, ← str_map h.2]
    congr 1
    have h1 := h.1
    unfold isStr at h1
    split at h1
    · rfl
    · cases h1
open Classical in
/-- Whether a list, in order, is so. -/
noncomputable def risB (vs : List Value) (R : List (List UInt8)) : Bool := decide (strR vs = true ∧ 1 ≤ vs.length ∧ vs.length ≤ 16 ∧ rising (vs.map unS) = R)
theorem risB_iff {vs : List Value} {R : List (List UInt8)} : risB vs R = true ↔ (strR vs = true ∧ 1 ≤ vs.length ∧ vs.length ≤ 16 ∧ rising (vs.map unS) = R) := by unfold risB; exact decide_eq_true_iff
noncomputable def spRisT (R : List (List UInt8)) (f : FuncId) (args : Array Value) (h : AH) : Option (Bool × Value × AH) :=
  cond (Nat.beq f 69) (match args with
    | ⟨[.func (.yield 0) ⟨vs⟩ ⟨[]⟩]⟩ => some (risB vs R, fz ⟨R.map scp⟩, h)
    | _ => none) none
theorem spRisT_ok (R : List (List UInt8)) : SpOK (spRisT R) := by
  intro f args h v h' hs
  unfold spRisT at hs
  obtain ⟨hf, hs2⟩ := cond_some hs
  clear hs
  have := Nat.eq_of_beq_eq_true hf
  subst this
  split at hs2
  · rename_i vs
    injection hs2 with hs
    injection hs with hb hs
    injection hs with hv hh
    subst hv hh
    obtain ⟨h1, h2, h3, h4⟩ := risB_iff.1 hb
    refine ⟨?_, Nat.le_refl _⟩
    simp only [strR, Bool.and_eq_true] at h1
    have hF := rs_fn (vs.map toStr) (by simpa using h2) (by simpa using h3)
    rw [← str_map h1.1, h4] at hF
    exact FnOK.pure hF rfl rfl h
  · cases hs2
noncomputable def SL (R : List (List UInt8)) : SC := ⟨idn, spOr (spRisT R) spIx, false, true⟩
theorem SL_ok (R : List (List UInt8)) : (SL R).cfg.OK Tryz.prog := ((spRisT_ok R).or spIx_ok).cfg
end Go.Proofs.YtklednomnpghcaaGreatDoor
