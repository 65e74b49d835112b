/-
  The order of instances by their points, with one more.
-/
import Derived.Test.YtbkccelgffopcaaGreatDoorOrdB
namespace Go.Proofs.YtbkccelgffopcaaGreatDoor
open Go.Ev Go.RowKit
theorem od_az (k : ByteArray) (w1 w2 : Int) (Q : Value → Option Obj → Prop) : ffn Tryz.prog SO [] 3000 [] Tryz.f25 [fz ⟨[.agg ⟨[.string ⟨#[105, 97]⟩, .int .i64 w1]⟩, .agg ⟨[.string ⟨#[105, 122]⟩, .int .i64 w2]⟩]⟩, .string k] h0 (fun v h => Q v (h.get (blkOf v))) =
    needO k [⟨#[105, 97]⟩, ⟨#[105, 122]⟩] (foldK k [(⟨#[105, 97]⟩, w1), (⟨#[105, 122]⟩, w2)] [] fun r => Q (.slice (some ⟨5, 0, none⟩) 2 2) (some (.cells ⟨r.reverse.flatMap instC⟩ 30 (0, 0)))) := by kernel_rfl
theorem ord_az (k : ByteArray) (w1 w2 : Int) (hk : k.size ≤ 1000) : FnOK 0 Tryz.prog 25 ⟨[fz ⟨List.map instV [(⟨#[105, 97]⟩, w1), (⟨#[105, 122]⟩, w2)]⟩, .string k]⟩ h0 (fun v _ => v = fz ⟨(sortO k [(⟨#[105, 97]⟩, w1), (⟨#[105, 122]⟩, w2)]).map instV⟩) := by
  refine ord_mk 5 rfl (FnOK.ftree SO_ok mixed Tryz.func25 some25 (od_az k w1 w2 fun v o => v = .slice (some ⟨5, 0, none⟩) 2 2 ∧ o = some (.cells ⟨(sortO k [(⟨#[105, 97]⟩, w1), (⟨#[105, 122]⟩, w2)]).flatMap instC⟩ 30 (0, 0))) ?_)
  refine needO_mk hk ?_ _ (by decide)
  rw [foldK_eq]
  exact ⟨rfl, rfl⟩
theorem od_bz (k : ByteArray) (w1 w2 : Int) (Q : Value → Option Obj → Prop) : ffn Tryz.prog SO [] 3000 [] Tryz.f25 [fz ⟨[.agg ⟨[.string ⟨#[105, 98]⟩, .int .i64 w1]⟩, .agg ⟨[.string ⟨#[105, 122]⟩, .int .i64 w2]⟩]⟩, .string k] h0 (fun v h => Q v (h.get (blkOf v))) =
    needO k [⟨#[105, 98]⟩, ⟨#[105, 122]⟩] (foldK k [(⟨#[105, 98]⟩, w1), (⟨#[105, 122]⟩, w2)] [] fun r => Q (.slice (some ⟨5, 0, none⟩) 2 2) (some (.cells ⟨r.reverse.flatMap instC⟩ 30 (0, 0)))) := by kernel_rfl
theorem ord_bz (k : ByteArray) (w1 w2 : Int) (hk : k.size ≤ 1000) : FnOK 0 Tryz.prog 25 ⟨[fz ⟨List.map instV [(⟨#[105, 98]⟩, w1), (⟨#[105, 122]⟩, w2)]⟩, .string k]⟩ h0 (fun v _ => v = fz ⟨(sortO k [(⟨#[105, 98]⟩, w1), (⟨#[105, 122]⟩, w2)]).map instV⟩) := by
  refine ord_mk 5 rfl (FnOK.ftree SO_ok mixed Tryz.func25 some25 (od_bz k w1 w2 fun v o => v = .slice (some ⟨5, 0, none⟩) 2 2 ∧ o = some (.cells ⟨(sortO k [(⟨#[105, 98]⟩, w1), (⟨#[105, 122]⟩, w2)]).flatMap instC⟩ 30 (0, 0))) ?_)
  refine needO_mk hk ?_ _ (by decide)
  rw [foldK_eq]
  exact ⟨rfl, rfl⟩
theorem od_cz (k : ByteArray) (w1 w2 : Int) (Q : Value → Option Obj → Prop) : ffn Tryz.prog SO [] 3000 [] Tryz.f25 [fz ⟨[.agg ⟨[.string ⟨#[105, 99]⟩, .int .i64 w1]⟩, .agg ⟨[.string ⟨#[105, 122]⟩, .int .i64 w2]⟩]⟩, .string k] h0 (fun v h => Q v (h.get (blkOf v))) =
    needO k [⟨#[105, 99]⟩, ⟨#[105, 122]⟩] (foldK k [(⟨#[105, 99]⟩, w1), (⟨#[105, 122]⟩, w2)] [] fun r => Q (.slice (some ⟨5, 0, none⟩) 2 2) (some (.cells ⟨r.reverse.flatMap instC⟩ 30 (0, 0)))) := by kernel_rfl
theorem ord_cz (k : ByteArray) (w1 w2 : Int) (hk : k.size ≤ 1000) : FnOK 0 Tryz.prog 25 ⟨[fz ⟨List.map instV [(⟨#[105, 99]⟩, w1), (⟨#[105, 122]⟩, w2)]⟩, .string k]⟩ h0 (fun v _ => v = fz ⟨(sortO k [(⟨#[105, 99]⟩, w1), (⟨#[105, 122]⟩, w2)]).map instV⟩) := by
  refine ord_mk 5 rfl (FnOK.ftree SO_ok mixed Tryz.func25 some25 (od_cz k w1 w2 fun v o => v = .slice (some ⟨5, 0, none⟩) 2 2 ∧ o = some (.cells ⟨(sortO k [(⟨#[105, 99]⟩, w1), (⟨#[105, 122]⟩, w2)]).flatMap instC⟩ 30 (0, 0))) ?_)
  refine needO_mk hk ?_ _ (by decide)
  rw [foldK_eq]
  exact ⟨rfl, rfl⟩
theorem od_dz (k : ByteArray) (w1 w2 : Int) (Q : Value → Option Obj → Prop) : ffn Tryz.prog SO [] 3000 [] Tryz.f25 [fz ⟨[.agg ⟨[.string ⟨#[105, 100]⟩, .int .i64 w1]⟩, .agg ⟨[.string ⟨#[105, 122]⟩, .int .i64 w2]⟩]⟩, .string k] h0 (fun v h => Q v (h.get (blkOf v))) =
    needO k [⟨#[105, 100]⟩, ⟨#[105, 122]⟩] (foldK k [(⟨#[105, 100]⟩, w1), (⟨#[105, 122]⟩, w2)] [] fun r => Q (.slice (some ⟨5, 0, none⟩) 2 2) (some (.cells ⟨r.reverse.flatMap instC⟩ 30 (0, 0)))) := by kernel_rfl
theorem ord_dz (k : ByteArray) (w1 w2 : Int) (hk : k.size ≤ 1000) : FnOK 0 Tryz.prog 25 ⟨[fz ⟨List.map instV [(⟨#[105, 100]⟩, w1), (⟨#[105, 122]⟩, w2)]⟩, .string k]⟩ h0 (fun v _ => v = fz ⟨(sortO k [(⟨#[105, 100]⟩, w1), (⟨#[105, 122]⟩, w2)]).map instV⟩) := by
  refine ord_mk 5 rfl (FnOK.ftree SO_ok mixed Tryz.func25 some25 (od_dz k w1 w2 fun v o => v = .slice (some ⟨5, 0, none⟩) 2 2 ∧ o = some (.cells ⟨(sortO k [(⟨#[105, 100]⟩, w1), (⟨#[105, 122]⟩, w2)]).flatMap instC⟩ 30 (0, 0))) ?_)
  refine needO_mk hk ?_ _ (by decide)
  rw [foldK_eq]
  exact ⟨rfl, rfl⟩
theorem od_abz (k : ByteArray) (w1 w2 w3 : Int) (Q : Value → Option Obj → Prop) : ffn Tryz.prog SO [] 3000 [] Tryz.f25 [fz ⟨[.agg ⟨[.string ⟨#[105, 97]⟩, .int .i64 w1]⟩, .agg ⟨[.string ⟨#[105, 98]⟩, .int .i64 w2]⟩, .agg ⟨[.string ⟨#[105, 122]⟩, .int .i64 w3]⟩]⟩, .string k] h0 (fun v h => Q v (h.get (blkOf v))) =
    needO k [⟨#[105, 97]⟩, ⟨#[105, 98]⟩, ⟨#[105, 122]⟩] (foldK k [(⟨#[105, 97]⟩, w1), (⟨#[105, 98]⟩, w2), (⟨#[105, 122]⟩, w3)] [] fun r => Q (.slice (some ⟨6, 0, none⟩) 3 3) (some (.cells ⟨r.reverse.flatMap instC⟩ 30 (0, 0)))) := by kernel_rfl
theorem ord_abz (k : ByteArray) (w1 w2 w3 : Int) (hk : k.size ≤ 1000) : FnOK 0 Tryz.prog 25 ⟨[fz ⟨List.map instV [(⟨#[105, 97]⟩, w1), (⟨#[105, 98]⟩, w2), (⟨#[105, 122]⟩, w3)]⟩, .string k]⟩ h0 (fun v _ => v = fz ⟨(sortO k [(⟨#[105, 97]⟩, w1), (⟨#[105, 98]⟩, w2), (⟨#[105, 122]⟩, w3)]).map instV⟩) := by
  refine ord_mk 6 rfl (FnOK.ftree SO_ok mixed Tryz.func25 some25 (od_abz k w1 w2 w3 fun v o => v = .slice (some ⟨6, 0, none⟩) 3 3 ∧ o = some (.cells ⟨(sortO k [(⟨#[105, 97]⟩, w1), (⟨#[105, 98]⟩, w2), (⟨#[105, 122]⟩, w3)]).flatMap instC⟩ 30 (0, 0))) ?_)
  refine needO_mk hk ?_ _ (by decide)
  rw [foldK_eq]
  exact ⟨rfl, rfl⟩
theorem od_acz (k : ByteArray) (w1 w2 w3 : Int) (Q : Value → Option Obj → Prop) : ffn Tryz.prog SO [] 3000 [] Tryz.f25 [fz ⟨[.agg ⟨[.string ⟨#[105, 97]⟩, .int .i64 w1]⟩, .agg ⟨[.string ⟨#[105, 99]⟩, .int .i64 w2]⟩, .agg ⟨[.string ⟨#[105, 122]⟩, .int .i64 w3]⟩]⟩, .string k] h0 (fun v h => Q v (h.get (blkOf v))) =
    needO k [⟨#[105, 97]⟩, ⟨#[105, 99]⟩, ⟨#[105, 122]⟩] (foldK k [(⟨#[105, 97]⟩, w1), (⟨#[105, 99]⟩, w2), (⟨#[105, 122]⟩, w3)] [] fun r => Q (.slice (some ⟨6, 0, none⟩) 3 3) (some (.cells ⟨r.reverse.flatMap instC⟩ 30 (0, 0)))) := by kernel_rfl
theorem ord_acz (k : ByteArray) (w1 w2 w3 : Int) (hk : k.size ≤ 1000) : FnOK 0 Tryz.prog 25 ⟨[fz ⟨List.map instV [(⟨#[105, 97]⟩, w1), (⟨#[105, 99]⟩, w2), (⟨#[105, 122]⟩, w3)]⟩, .string k]⟩ h0 (fun v _ => v = fz ⟨(sortO k [(⟨#[105, 97]⟩, w1), (⟨#[105, 99]⟩, w2), (⟨#[105, 122]⟩, w3)]).map instV⟩) := by
  refine ord_mk 6 rfl (FnOK.ftree SO_ok mixed Tryz.func25 some25 (od_acz k w1 w2 w3 fun v o => v = .slice (some ⟨6, 0, none⟩) 3 3 ∧ o = some (.cells ⟨(sortO k [(⟨#[105, 97]⟩, w1), (⟨#[105, 99]⟩, w2), (⟨#[105, 122]⟩, w3)]).flatMap instC⟩ 30 (0, 0))) ?_)
  refine needO_mk hk ?_ _ (by decide)
  rw [foldK_eq]
  exact ⟨rfl, rfl⟩
theorem od_adz (k : ByteArray) (w1 w2 w3 : Int) (Q : Value → Option Obj → Prop) : ffn Tryz.prog SO [] 3000 [] Tryz.f25 [fz ⟨[.agg ⟨[.string ⟨#[105, 97]⟩, .int .i64 w1]⟩, .agg ⟨[.string ⟨#[105, 100]⟩, .int .i64 w2]⟩, .agg ⟨[.string ⟨#[105, 122]⟩, .int .i64 w3]⟩]⟩, .string k] h0 (fun v h => Q v (h.get (blkOf v))) =
    needO k [⟨#[105, 97]⟩, ⟨#[105, 100]⟩, ⟨#[105, 122]⟩] (foldK k [(⟨#[105, 97]⟩, w1), (⟨#[105, 100]⟩, w2), (⟨#[105, 122]⟩, w3)] [] fun r => Q (.slice (some ⟨6, 0, none⟩) 3 3) (some (.cells ⟨r.reverse.flatMap instC⟩ 30 (0, 0)))) := by kernel_rfl
theorem ord_adz (k : ByteArray) (w1 w2 w3 : Int) (hk : k.size ≤ 1000) : FnOK 0 Tryz.prog 25 ⟨[fz ⟨List.map instV [(⟨#[105, 97]⟩, w1), (⟨#[105, 100]⟩, w2), (⟨#[105, 122]⟩, w3)]⟩, .string k]⟩ h0 (fun v _ => v = fz ⟨(sortO k [(⟨#[105, 97]⟩, w1), (⟨#[105, 100]⟩, w2), (⟨#[105, 122]⟩, w3)]).map instV⟩) := by
  refine ord_mk 6 rfl (FnOK.ftree SO_ok mixed Tryz.func25 some25 (od_adz k w1 w2 w3 fun v o => v = .slice (some ⟨6, 0, none⟩) 3 3 ∧ o = some (.cells ⟨(sortO k [(⟨#[105, 97]⟩, w1), (⟨#[105, 100]⟩, w2), (⟨#[105, 122]⟩, w3)]).flatMap instC⟩ 30 (0, 0))) ?_)
  refine needO_mk hk ?_ _ (by decide)
  rw [foldK_eq]
  exact ⟨rfl, rfl⟩
theorem od_bcz (k : ByteArray) (w1 w2 w3 : Int) (Q : Value → Option Obj → Prop) : ffn Tryz.prog SO [] 3000 [] Tryz.f25 [fz ⟨[.agg ⟨[.string ⟨#[105, 98]⟩, .int .i64 w1]⟩, .agg ⟨[.string ⟨#[105, 99]⟩, .int .i64 w2]⟩, .agg ⟨[.string ⟨#[105, 122]⟩, .int .i64 w3]⟩]⟩, .string k] h0 (fun v h => Q v (h.get (blkOf v))) =
    needO k [⟨#[105, 98]⟩, ⟨#[105, 99]⟩, ⟨#[105, 122]⟩] (foldK k [(⟨#[105, 98]⟩, w1), (⟨#[105, 99]⟩, w2), (⟨#[105, 122]⟩, w3)] [] fun r => Q (.slice (some ⟨6, 0, none⟩) 3 3) (some (.cells ⟨r.reverse.flatMap instC⟩ 30 (0, 0)))) := by kernel_rfl
theorem ord_bcz (k : ByteArray) (w1 w2 w3 : Int) (hk : k.size ≤ 1000) : FnOK 0 Tryz.prog 25 ⟨[fz ⟨List.map instV [(⟨#[105, 98]⟩, w1), (⟨#[105, 99]⟩, w2), (⟨#[105, 122]⟩, w3)]⟩, .string k]⟩ h0 (fun v _ => v = fz ⟨(sortO k [(⟨#[105, 98]⟩, w1), (⟨#[105, 99]⟩, w2), (⟨#[105, 122]⟩, w3)]).map instV⟩) := by
  refine ord_mk 6 rfl (FnOK.ftree SO_ok mixed Tryz.func25 some25 (od_bcz k w1 w2 w3 fun v o => v = .slice (some ⟨6, 0, none⟩) 3 3 ∧ o = some (.cells ⟨(sortO k [(⟨#[105, 98]⟩, w1), (⟨#[105, 99]⟩, w2), (⟨#[105, 122]⟩, w3)]).flatMap instC⟩ 30 (0, 0))) ?_)
  refine needO_mk hk ?_ _ (by decide)
  rw [foldK_eq]
  exact ⟨rfl, rfl⟩
theorem od_bdz (k : ByteArray) (w1 w2 w3 : Int) (Q : Value → Option Obj → Prop) : ffn Tryz.prog SO [] 3000 [] Tryz.f25 [fz ⟨[.agg ⟨[.string ⟨#[105, 98]⟩, .int .i64 w1]⟩, .agg ⟨[.string ⟨#[105, 100]⟩, .int .i64 w2]⟩, .agg ⟨[.string ⟨#[105, 122]⟩, .int .i64 w3]⟩]⟩, .string k] h0 (fun v h => Q v (h.get (blkOf v))) =
    needO k [⟨#[105, 98]⟩, ⟨#[105, 100]⟩, ⟨#[105, 122]⟩] (foldK k [(⟨#[105, 98]⟩, w1), (⟨#[105, 100]⟩, w2), (⟨#[105, 122]⟩, w3)] [] fun r => Q (.slice (some ⟨6, 0, none⟩) 3 3) (some (.cells ⟨r.reverse.flatMap instC⟩ 30 (0, 0)))) := by kernel_rfl
theorem ord_bdz (k : ByteArray) (w1 w2 w3 : Int) (hk : k.size ≤ 1000) : FnOK 0 Tryz.prog 25 ⟨[fz ⟨List.map instV [(⟨#[105, 98]⟩, w1), (⟨#[105, 100]⟩, w2), (⟨#[105, 122]⟩, w3)]⟩, .string k]⟩ h0 (fun v _ => v = fz ⟨(sortO k [(⟨#[105, 98]⟩, w1), (⟨#[105, 100]⟩, w2), (⟨#[105, 122]⟩, w3)]).map instV⟩) := by
  refine ord_mk 6 rfl (FnOK.ftree SO_ok mixed Tryz.func25 some25 (od_bdz k w1 w2 w3 fun v o => v = .slice (some ⟨6, 0, none⟩) 3 3 ∧ o = some (.cells ⟨(sortO k [(⟨#[105, 98]⟩, w1), (⟨#[105, 100]⟩, w2), (⟨#[105, 122]⟩, w3)]).flatMap instC⟩ 30 (0, 0))) ?_)
  refine needO_mk hk ?_ _ (by decide)
  rw [foldK_eq]
  exact ⟨rfl, rfl⟩
theorem od_cdz (k : ByteArray) (w1 w2 w3 : Int) (Q : Value → Option Obj → Prop) : ffn Tryz.prog SO [] 3000 [] Tryz.f25 [fz ⟨[.agg ⟨[.string ⟨#[105, 99]⟩, .int .i64 w1]⟩, .agg ⟨[.string ⟨#[105, 100]⟩, .int .i64 w2]⟩, .agg ⟨[.string ⟨#[105, 122]⟩, .int .i64 w3]⟩]⟩, .string k] h0 (fun v h => Q v (h.get (blkOf v))) =
    needO k [⟨#[105, 99]⟩, ⟨#[105, 100]⟩, ⟨#[105, 122]⟩] (foldK k [(⟨#[105, 99]⟩, w1), (⟨#[105, 100]⟩, w2), (⟨#[105, 122]⟩, w3)] [] fun r => Q (.slice (some ⟨6, 0, none⟩) 3 3) (some (.cells ⟨r.reverse.flatMap instC⟩ 30 (0, 0)))) := by kernel_rfl
theorem ord_cdz (k : ByteArray) (w1 w2 w3 : Int) (hk : k.size ≤ 1000) : FnOK 0 Tryz.prog 25 ⟨[fz ⟨List.map instV [(⟨#[105, 99]⟩, w1), (⟨#[105, 100]⟩, w2), (⟨#[105, 122]⟩, w3)]⟩, .string k]⟩ h0 (fun v _ => v = fz ⟨(sortO k [(⟨#[105, 99]⟩, w1), (⟨#[105, 100]⟩, w2), (⟨#[105, 122]⟩, w3)]).map instV⟩) := by
  refine ord_mk 6 rfl (FnOK.ftree SO_ok mixed Tryz.func25 some25 (od_cdz k w1 w2 w3 fun v o => v = .slice (some ⟨6, 0, none⟩) 3 3 ∧ o = some (.cells ⟨(sortO k [(⟨#[105, 99]⟩, w1), (⟨#[105, 100]⟩, w2), (⟨#[105, 122]⟩, w3)]).flatMap instC⟩ 30 (0, 0))) ?_)
  refine needO_mk hk ?_ _ (by decide)
  rw [foldK_eq]
  exact ⟨rfl, rfl⟩
theorem od_abcz (k : ByteArray) (w1 w2 w3 w4 : Int) (Q : Value → Option Obj → Prop) : ffn Tryz.prog SO [] 3000 [] Tryz.f25 [fz ⟨[.agg ⟨[.string ⟨#[105, 97]⟩, .int .i64 w1]⟩, .agg ⟨[.string ⟨#[105, 98]⟩, .int .i64 w2]⟩, .agg ⟨[.string ⟨#[105, 99]⟩, .int .i64 w3]⟩, .agg ⟨[.string ⟨#[105, 122]⟩, .int .i64 w4]⟩]⟩, .string k] h0 (fun v h => Q v (h.get (blkOf v))) =
    needO k [⟨#[105, 97]⟩, ⟨#[105, 98]⟩, ⟨#[105, 99]⟩, ⟨#[105, 122]⟩] (foldK k [(⟨#[105, 97]⟩, w1), (⟨#[105, 98]⟩, w2), (⟨#[105, 99]⟩, w3), (⟨#[105, 122]⟩, w4)] [] fun r => Q (.slice (some ⟨7, 0, none⟩) 4 4) (some (.cells ⟨r.reverse.flatMap instC⟩ 30 (0, 0)))) := by kernel_rfl
theorem ord_abcz (k : ByteArray) (w1 w2 w3 w4 : Int) (hk : k.size ≤ 1000) : FnOK 0 Tryz.prog 25 ⟨[fz ⟨List.map instV [(⟨#[105, 97]⟩, w1), (⟨#[105, 98]⟩, w2), (⟨#[105, 99]⟩, w3), (⟨#[105, 122]⟩, w4)]⟩, .string k]⟩ h0 (fun v _ => v = fz ⟨(sortO k [(⟨#[105, 97]⟩, w1), (⟨#[105, 98]⟩, w2), (⟨#[105, 99]⟩, w3), (⟨#[105, 122]⟩, w4)]).map instV⟩) := by
  refine ord_mk 7 rfl (FnOK.ftree SO_ok mixed Tryz.func25 some25 (od_abcz k w1 w2 w3 w4 fun v o => v = .slice (some ⟨7, 0, none⟩) 4 4 ∧ o = some (.cells ⟨(sortO k [(⟨#[105, 97]⟩, w1), (⟨#[105, 98]⟩, w2), (⟨#[105, 99]⟩, w3), (⟨#[105, 122]⟩, w4)]).flatMap instC⟩ 30 (0, 0))) ?_)
  refine needO_mk hk ?_ _ (by decide)
  rw [foldK_eq]
  exact ⟨rfl, rfl⟩
theorem od_abdz (k : ByteArray) (w1 w2 w3 w4 : Int) (Q : Value → Option Obj → Prop) : ffn Tryz.prog SO [] 3000 [] Tryz.f25 [fz ⟨[.agg ⟨[.string ⟨#[105, 97]⟩, .int .i64 w1]⟩, .agg ⟨[.string ⟨#[105, 98]⟩, .int .i64 w2]⟩, .agg ⟨[.string ⟨#[105, 100]⟩, .int .i64 w3]⟩, .agg ⟨[.string ⟨#[105, 122]⟩, .int .i64 w4]⟩]⟩, .string k] h0 (fun v h => Q v (h.get (blkOf v))) =
    needO k [⟨#[105, 97]⟩, ⟨#[105, 98]⟩, ⟨#[105, 100]⟩, ⟨#[105, 122]⟩] (foldK k [(⟨#[105, 97]⟩, w1), (⟨#[105, 98]⟩, w2), (⟨#[105, 100]⟩, w3), (⟨#[105, 122]⟩, w4)] [] fun r => Q (.slice (some ⟨7, 0, none⟩) 4 4) (some (.cells ⟨r.reverse.flatMap instC⟩ 30 (0, 0)))) := by kernel_rfl
theorem ord_abdz (k : ByteArray) (w1 w2 w3 w4 : Int) (hk : k.size ≤ 1000) : FnOK 0 Tryz.prog 25 ⟨[fz ⟨List.map instV [(⟨#[105, 97]⟩, w1), (⟨#[105, 98]⟩, w2), (⟨#[105, 100]⟩, w3), (⟨#[105, 122]⟩, w4)]⟩, .string k]⟩ h0 (fun v _ => v = fz ⟨(sortO k [(⟨#[105, 97]⟩, w1), (⟨#[105, 98]⟩, w2), (⟨#[105, 100]⟩, w3), (⟨#[105, 122]⟩, w4)]).map instV⟩) := by
  refine ord_mk 7 rfl (FnOK.ftree SO_ok mixed Tryz.func25 some25 (od_abdz k w1 w2 w3 w4 fun v o => v = .slice (some ⟨7, 0, none⟩) 4 4 ∧ o = some (.cells ⟨(sortO k [(⟨#[105, 97]⟩, w1), (⟨#[105, 98]⟩, w2), (⟨#[105, 100]⟩, w3), (⟨#[105, 122]⟩, w4)]).flatMap instC⟩ 30 (0, 0))) ?_)
  refine needO_mk hk ?_ _ (by decide)
  rw [foldK_eq]
  exact ⟨rfl, rfl⟩
theorem od_acdz (k : ByteArray) (w1 w2 w3 w4 : Int) (Q : Value → Option Obj → Prop) : ffn Tryz.prog SO [] 3000 [] Tryz.f25 [fz ⟨[.agg ⟨[.string ⟨#[105, 97]⟩, .int .i64 w1]⟩, .agg ⟨[.string ⟨#[105, 99]⟩, .int .i64 w2]⟩, .agg ⟨[.string ⟨#[105, 100]⟩, .int .i64 w3]⟩, .agg ⟨[.string ⟨#[105, 122]⟩, .int .i64 w4]⟩]⟩, .string k] h0 (fun v h => Q v (h.get (blkOf v))) =
    needO k [⟨#[105, 97]⟩, ⟨#[105, 99]⟩, ⟨#[105, 100]⟩, ⟨#[105, 122]⟩] (foldK k [(⟨#[105, 97]⟩, w1), (⟨#[105, 99]⟩, w2), (⟨#[105, 100]⟩, w3), (⟨#[105, 122]⟩, w4)] [] fun r => Q (.slice (some ⟨7, 0, none⟩) 4 4) (some (.cells ⟨r.reverse.flatMap instC⟩ 30 (0, 0)))) := by kernel_rfl
theorem ord_acdz (k : ByteArray) (w1 w2 w3 w4 : Int) (hk : k.size ≤ 1000) : FnOK 0 Tryz.prog 25 ⟨[fz ⟨List.map instV [(⟨#[105, 97]⟩, w1), (⟨#[105, 99]⟩, w2), (⟨#[105, 100]⟩, w3), (⟨#[105, 122]⟩, w4)]⟩, .string k]⟩ h0 (fun v _ => v = fz ⟨(sortO k [(⟨#[105, 97]⟩, w1), (⟨#[105, 99]⟩, w2), (⟨#[105, 100]⟩, w3), (⟨#[105, 122]⟩, w4)]).map instV⟩) := by
  refine ord_mk 7 rfl (FnOK.ftree SO_ok mixed Tryz.func25 some25 (od_acdz k w1 w2 w3 w4 fun v o => v = .slice (some ⟨7, 0, none⟩) 4 4 ∧ o = some (.cells ⟨(sortO k [(⟨#[105, 97]⟩, w1), (⟨#[105, 99]⟩, w2), (⟨#[105, 100]⟩, w3), (⟨#[105, 122]⟩, w4)]).flatMap instC⟩ 30 (0, 0))) ?_)
  refine needO_mk hk ?_ _ (by decide)
  rw [foldK_eq]
  exact ⟨rfl, rfl⟩
theorem od_bcdz (k : ByteArray) (w1 w2 w3 w4 : Int) (Q : Value → Option Obj → Prop) : ffn Tryz.prog SO [] 3000 [] Tryz.f25 [fz ⟨[.agg ⟨[.string ⟨#[105, 98]⟩, .int .i64 w1]⟩, .agg ⟨[.string ⟨#[105, 99]⟩, .int .i64 w2]⟩, .agg ⟨[.string ⟨#[105, 100]⟩, .int .i64 w3]⟩, .agg ⟨[.string ⟨#[105, 122]⟩, .int .i64 w4]⟩]⟩, .string k] h0 (fun v h => Q v (h.get (blkOf v))) =
    needO k [⟨#[105, 98]⟩, ⟨#[105, 99]⟩, ⟨#[105, 100]⟩, ⟨#[105, 122]⟩] (foldK k [(⟨#[105, 98]⟩, w1), (⟨#[105, 99]⟩, w2), (⟨#[105, 100]⟩, w3), (⟨#[105, 122]⟩, w4)] [] fun r => Q (.slice (some ⟨7, 0, none⟩) 4 4) (some (.cells ⟨r.reverse.flatMap instC⟩ 30 (0, 0)))) := by kernel_rfl
theorem ord_bcdz (k : ByteArray) (w1 w2 w3 w4 : Int) (hk : k.size ≤ 1000) : FnOK 0 Tryz.prog 25 ⟨[fz ⟨List.map instV [(⟨#[105, 98]⟩, w1), (⟨#[105, 99]⟩, w2), (⟨#[105, 100]⟩, w3), (⟨#[105, 122]⟩, w4)]⟩, .string k]⟩ h0 (fun v _ => v = fz ⟨(sortO k [(⟨#[105, 98]⟩, w1), (⟨#[105, 99]⟩, w2), (⟨#[105, 100]⟩, w3), (⟨#[105, 122]⟩, w4)]).map instV⟩) := by
  refine ord_mk 7 rfl (FnOK.ftree SO_ok mixed Tryz.func25 some25 (od_bcdz k w1 w2 w3 w4 fun v o => v = .slice (some ⟨7, 0, none⟩) 4 4 ∧ o = some (.cells ⟨(sortO k [(⟨#[105, 98]⟩, w1), (⟨#[105, 99]⟩, w2), (⟨#[105, 100]⟩, w3), (⟨#[105, 122]⟩, w4)]).flatMap instC⟩ 30 (0, 0))) ?_)
  refine needO_mk hk ?_ _ (by decide)
  rw [foldK_eq]
  exact ⟨rfl, rfl⟩
theorem od_abcdz (k : ByteArray) (w1 w2 w3 w4 w5 : Int) (Q : Value → Option Obj → Prop) : ffn Tryz.prog SO [] 3000 [] Tryz.f25 [fz ⟨[.agg ⟨[.string ⟨#[105, 97]⟩, .int .i64 w1]⟩, .agg ⟨[.string ⟨#[105, 98]⟩, .int .i64 w2]⟩, .agg ⟨[.string ⟨#[105, 99]⟩, .int .i64 w3]⟩, .agg ⟨[.string ⟨#[105, 100]⟩, .int .i64 w4]⟩, .agg ⟨[.string ⟨#[105, 122]⟩, .int .i64 w5]⟩]⟩, .string k] h0 (fun v h => Q v (h.get (blkOf v))) =
    needO k [⟨#[105, 97]⟩, ⟨#[105, 98]⟩, ⟨#[105, 99]⟩, ⟨#[105, 100]⟩, ⟨#[105, 122]⟩] (foldK k [(⟨#[105, 97]⟩, w1), (⟨#[105, 98]⟩, w2), (⟨#[105, 99]⟩, w3), (⟨#[105, 100]⟩, w4), (⟨#[105, 122]⟩, w5)] [] fun r => Q (.slice (some ⟨8, 0, none⟩) 5 5) (some (.cells ⟨r.reverse.flatMap instC⟩ 30 (0, 0)))) := by kernel_rfl
theorem ord_abcdz (k : ByteArray) (w1 w2 w3 w4 w5 : Int) (hk : k.size ≤ 1000) : FnOK 0 Tryz.prog 25 ⟨[fz ⟨List.map instV [(⟨#[105, 97]⟩, w1), (⟨#[105, 98]⟩, w2), (⟨#[105, 99]⟩, w3), (⟨#[105, 100]⟩, w4), (⟨#[105, 122]⟩, w5)]⟩, .string k]⟩ h0 (fun v _ => v = fz ⟨(sortO k [(⟨#[105, 97]⟩, w1), (⟨#[105, 98]⟩, w2), (⟨#[105, 99]⟩, w3), (⟨#[105, 100]⟩, w4), (⟨#[105, 122]⟩, w5)]).map instV⟩) := by
  refine ord_mk 8 rfl (FnOK.ftree SO_ok mixed Tryz.func25 some25 (od_abcdz k w1 w2 w3 w4 w5 fun v o => v = .slice (some ⟨8, 0, none⟩) 5 5 ∧ o = some (.cells ⟨(sortO k [(⟨#[105, 97]⟩, w1), (⟨#[105, 98]⟩, w2), (⟨#[105, 99]⟩, w3), (⟨#[105, 100]⟩, w4), (⟨#[105, 122]⟩, w5)]).flatMap instC⟩ 30 (0, 0))) ?_)
  refine needO_mk hk ?_ _ (by decide)
  rw [foldK_eq]
  exact ⟨rfl, rfl⟩
def keys5 : List (List ByteArray) := [[⟨#[105, 97]⟩, ⟨#[105, 122]⟩], [⟨#[105, 98]⟩, ⟨#[105, 122]⟩], [⟨#[105, 99]⟩, ⟨#[105, 122]⟩], [⟨#[105, 100]⟩, ⟨#[105, 122]⟩], [⟨#[105, 97]⟩, ⟨#[105, 98]⟩, ⟨#[105, 122]⟩], [⟨#[105, 97]⟩, ⟨#[105, 99]⟩, ⟨#[105, 122]⟩], [⟨#[105, 97]⟩, ⟨#[105, 100]⟩, ⟨#[105, 122]⟩], [⟨#[105, 98]⟩, ⟨#[105, 99]⟩, ⟨#[105, 122]⟩], [⟨#[105, 98]⟩, ⟨#[105, 100]⟩, ⟨#[105, 122]⟩], [⟨#[105, 99]⟩, ⟨#[105, 100]⟩, ⟨#[105, 122]⟩], [⟨#[105, 97]⟩, ⟨#[105, 98]⟩, ⟨#[105, 99]⟩, ⟨#[105, 122]⟩], [⟨#[105, 97]⟩, ⟨#[105, 98]⟩, ⟨#[105, 100]⟩, ⟨#[105, 122]⟩], [⟨#[105, 97]⟩, ⟨#[105, 99]⟩, ⟨#[105, 100]⟩, ⟨#[105, 122]⟩], [⟨#[105, 98]⟩, ⟨#[105, 99]⟩, ⟨#[105, 100]⟩, ⟨#[105, 122]⟩], [⟨#[105, 97]⟩, ⟨#[105, 98]⟩, ⟨#[105, 99]⟩, ⟨#[105, 100]⟩, ⟨#[105, 122]⟩]]
theorem ord5_fn (k : ByteArray) (hk : k.size ≤ 1000) (l : List (ByteArray × Int)) (h : l.map Prod.fst ∈ keys5) : FnOK 0 Tryz.prog 25 ⟨[fz ⟨l.map instV⟩, .string k]⟩ h0 (fun v _ => v = fz ⟨(sortO k l).map instV⟩) := by
  simp only [keys5, List.mem_cons, List.not_mem_nil, or_false] at h
  rcases h with h | h | h | h | h | h | h | h | h | h | h | h | h | h | h
  · match l, h with
    | [(a0, w0), (a1, w1)], h =>
      simp only [List.map_cons, List.map_nil, List.cons.injEq, and_true] at h
      obtain ⟨rfl, rfl⟩ := h
      exact ord_az k w0 w1 hk
  · match l, h with
    | [(a0, w0), (a1, w1)], h =>
      simp only [List.map_cons, List.map_nil, List.cons.injEq, and_true] at h
      obtain ⟨rfl, rfl⟩ := h
      exact ord_bz k w0 w1 hk
  · match l, h with
    | [(a0, w0), (a1, w1)], h =>
      simp only [List.map_cons, List.map_nil, List.cons.injEq, and_true] at h
      obtain ⟨rfl, rfl⟩ := h
      exact ord_cz k w0 w1 hk
  · match l, h with
    | [(a0, w0), (a1, w1)], h =>
      simp only [List.map_cons, List.map_nil, List.cons.injEq, and_true] at h
      obtain ⟨rfl, rfl⟩ := h
      exact ord_dz k w0 w1 hk
  · match l, h with
    | [(a0, w0), (a1, w1), (a2, w2)], h =>
      simp only [List.map_cons, List.map_nil, List.cons.injEq, and_true] at h
      obtain ⟨rfl, rfl, rfl⟩ := h
      exact ord_abz k w0 w1 w2 hk
  · match l, h with
    | [(a0, w0), (a1, w1), (a2, w2)], h =>
      simp only [List.map_cons, List.map_nil, List.cons.injEq, and_true] at h
      obtain ⟨rfl, rfl, rfl⟩ := h
      exact ord_acz k w0 w1 w2 hk
  · match l, h with
    | [(a0, w0), (a1, w1), (a2, w2)], h =>
      simp only [List.map_cons, List.map_nil, List.cons.injEq, and_true] at h
      obtain ⟨rfl, rfl, rfl⟩ := h
      exact ord_adz k w0 w1 w2 hk
  · match l, h with
    | [(a0, w0), (a1, w1), (a2, w2)], h =>
      simp only [List.map_cons, List.map_nil, List.cons.injEq, and_true] at h
      obtain ⟨rfl, rfl, rfl⟩ := h
      exact ord_bcz k w0 w1 w2 hk
  · match l, h with
    | [(a0, w0), (a1, w1), (a2, w2)], h =>
      simp only [List.map_cons, List.map_nil, List.cons.injEq, and_true] at h
      obtain ⟨rfl, rfl, rfl⟩ := h
      exact ord_bdz k w0 w1 w2 hk
  · match l, h with
    | [(a0, w0), (a1, w1), (a2, w2)], h =>
      simp only [List.map_cons, List.map_nil, List.cons.injEq, and_true] at h
      obtain ⟨rfl, rfl, rfl⟩ := h
      exact ord_cdz k w0 w1 w2 hk
  · match l, h with
    | [(a0, w0), (a1, w1), (a2, w2), (a3, w3)], h =>
      simp only [List.map_cons, List.map_nil, List.cons.injEq, and_true] at h
      obtain ⟨rfl, rfl, rfl, rfl⟩ := h
      exact ord_abcz k w0 w1 w2 w3 hk
  · match l, h with
    | [(a0, w0), (a1, w1), (a2, w2), (a3, w3)], h =>
      simp only [List.map_cons, List.map_nil, List.cons.injEq, and_true] at h
      obtain ⟨rfl, rfl, rfl, rfl⟩ := h
      exact ord_abdz k w0 w1 w2 w3 hk
  · match l, h with
    | [(a0, w0), (a1, w1), (a2, w2), (a3, w3)], h =>
      simp only [List.map_cons, List.map_nil, List.cons.injEq, and_true] at h
      obtain ⟨rfl, rfl, rfl, rfl⟩ := h
      exact ord_acdz k w0 w1 w2 w3 hk
  · match l, h with
    | [(a0, w0), (a1, w1), (a2, w2), (a3, w3)], h =>
      simp only [List.map_cons, List.map_nil, List.cons.injEq, and_true] at h
      obtain ⟨rfl, rfl, rfl, rfl⟩ := h
      exact ord_bcdz k w0 w1 w2 w3 hk
  · match l, h with
    | [(a0, w0), (a1, w1), (a2, w2), (a3, w3), (a4, w4)], h =>
      simp only [List.map_cons, List.map_nil, List.cons.injEq, and_true] at h
      obtain ⟨rfl, rfl, rfl, rfl, rfl⟩ := h
      exact ord_abcdz k w0 w1 w2 w3 w4 hk
end Go.Proofs.YtbkccelgffopcaaGreatDoor
