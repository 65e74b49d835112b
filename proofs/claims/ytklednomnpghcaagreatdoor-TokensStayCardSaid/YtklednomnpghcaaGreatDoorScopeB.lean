/-
  Sorting and cutting rows of scopes, over the evaluator's heaps.
-/
import Derived.Test.YtklednomnpghcaaGreatDoorScopeA
import Derived.Test.YtklednomnpghcaaGreatDoorScopeS
namespace Go.Proofs.YtklednomnpghcaaGreatDoor
open Go.Ev Go.RowKit ScopeLaw Go.Sort

theorem scp_enc : (scp : List UInt8 → Value) = encStr := rfl
/-- In order. -/
def srt (zs : List (List UInt8)) : List (List UInt8) := zs.mergeSort fun x y => decide (x ≤ y)
/-- Each once, empty ones behind. -/
def cut (zs : List (List UInt8)) : List (List UInt8) := Go.Lib.compact zs ++ List.replicate (zs.length - (Go.Lib.compact zs).length) []
theorem sort_said : SortSaid Tryz.prog 66 scp srt := fun blk off cap zs w hH hb hz => Tryz.slices_Sort_string blk off cap zs w hH hb hz
theorem cut_said : CutSaid Tryz.prog 67 scp cut (fun zs => (Go.Lib.compact zs).length) := fun blk off cap zs w hH hz hc => Tryz.slices_Compact_string blk off cap zs w hH hz hc
theorem srt_len (l : List (List UInt8)) : (srt l).length = l.length := by simp [srt]
theorem cut_le (l : List (List UInt8)) : (Go.Lib.compact l).length ≤ l.length := by
  unfold Go.Lib.compact Go.Lib.compactUpTo
  rw [List.length_map]
  exact Nat.le_trans (List.length_filter_le _ _) (by simp)
theorem cut_len (l : List (List UInt8)) : (cut l).length = l.length := by
  have := cut_le l
  simp only [cut, List.length_append, List.length_replicate]
  omega
theorem scp_one (N : Emb) (x : List UInt8) : VRel N (scp x) (scp x) := .string _
theorem scp_rel (N : Emb) (x : List UInt8) (v' : Value) (h : VRel N (scp x) v') : v' = scp x := h.inv_string
theorem sort_ok {H : AH} {b c : Nat} {t : TypeId} {zs : List (List UInt8)} (hb : H.get b = some (.cells ⟨zs.map scp⟩ t (0, 0))) (hz : zs.length < 4611686018427387904) :
    CallOK Tryz.prog 66 ⟨[.slice (some ⟨b, 0, none⟩) zs.length c]⟩ H (.tuple ⟨[]⟩) (H.set b (.cells ⟨(srt zs).map scp⟩ t (0, 0))) := sort_call sort_said scp_one scp_rel srt_len hb hz
theorem cut_ok {H : AH} {b c : Nat} {t : TypeId} {zs : List (List UInt8)} (hb : H.get b = some (.cells ⟨zs.map scp⟩ t (0, 0))) (hz : zs.length ≤ 9223372036854775807) (hc : zs.length ≤ c) :
    CallOK Tryz.prog 67 ⟨[.slice (some ⟨b, 0, none⟩) zs.length c]⟩ H (.slice (some ⟨b, 0, none⟩) (Go.Lib.compact zs).length c) (H.set b (.cells ⟨(cut zs).map scp⟩ t (0, 0))) := cut_call cut_said scp_one scp_rel cut_len cut_le hb hz hc
end Go.Proofs.YtklednomnpghcaaGreatDoor
