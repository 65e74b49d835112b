/-
  The order of instances by their points.
-/
import Derived.Test.YtbkccelgffopcaaGreatDoorOrdA
import Derived.Test.YtbkccelgffopcaaGreatDoorRight
namespace Go.Proofs.YtbkccelgffopcaaGreatDoor
open Go.Ev Go.RowKit

noncomputable def SO : SC := ⟨idn, spOr spCmp (spOr spOrI spHash), false, true⟩
theorem SO_ok : SO.cfg.OK Tryz.prog := (spCmp_ok.or (spOrI_ok.or spHash_ok)).cfg
theorem some25 : Tryz.f25.body.isSome = true := by kernel_rfl
/-- The points of an instance for a key. -/
noncomputable def ptsO (k : ByteArray) (x : ByteArray × Int) : Int := IntKind.i64.wrap (IntKind.i64.wrap ((hashR (k ++ ⟨#[0]⟩ ++ x.1)).tmod 1000003) * x.2)
def scmpL : List UInt8 → List UInt8 → Int
  | [], [] => 0
  | [], _ :: _ => -1
  | _ :: _, [] => 1
  | a :: l, b :: r => cond (Nat.blt a.toNat b.toNat) (-1) (cond (Nat.blt b.toNat a.toNat) 1 (scmpL l r))
def scmp (a b : ByteArray) : Int := scmpL a.data.toList b.data.toList
/-- Whether one comes before another. -/
noncomputable def ltO (k : ByteArray) (x y : ByteArray × Int) : Bool := decide (orI (cmpI (ptsO k y) (ptsO k x)) (scmp x.1 y.1) < 0)
noncomputable def insO (k : ByteArray) (x : ByteArray × Int) : List (ByteArray × Int) → List (ByteArray × Int)
  | [] => [x]
  | y :: l => cond (ltO k x y) (y :: insO k x l) (x :: y :: l)
noncomputable def foldO (k : ByteArray) : List (ByteArray × Int) → List (ByteArray × Int) → List (ByteArray × Int)
  | acc, [] => acc
  | acc, x :: l => foldO k (insO k x acc) l
/-- All in their order. -/
noncomputable def sortO (k : ByteArray) (l : List (ByteArray × Int)) : List (ByteArray × Int) := (foldO k [] l).reverse
noncomputable def insK (k : ByteArray) (x : ByteArray × Int) (l : List (ByteArray × Int)) : (List (ByteArray × Int) → Prop) → Prop :=
  List.rec (motive := fun _ => (List (ByteArray × Int) → Prop) → Prop) (fun K => K [x]) (fun y l ih K => cond (ltO k x y) (ih fun r => K (y :: r)) (K (x :: y :: l))) l
noncomputable def foldK (k : ByteArray) (l : List (ByteArray × Int)) : List (ByteArray × Int) → (List (ByteArray × Int) → Prop) → Prop :=
  List.rec (motive := fun _ => List (ByteArray × Int) → (List (ByteArray × Int) → Prop) → Prop) (fun acc K => K acc) (fun x _ ih acc K => insK k x acc fun r => ih r K) l
theorem insK_eq (k : ByteArray) (x : ByteArray × Int) : ∀ (l : List (ByteArray × Int)) (K : List (ByteArray × Int) → Prop), insK k x l K = K (insO k x l)
  | [], _ => rfl
  | y :: l, K => by
    have e : insK k x (y :: l) K = cond (ltO k x y) (insK k x l fun r => K (y :: r)) (K (x :: y :: l)) := rfl
    have e2 : insO k x (y :: l) = cond (ltO k x y) (y :: insO k x l) (x :: y :: l) := rfl
    rw [e, insK_eq k x l, e2]
    cases ltO k x y <;> rfl
theorem foldK_eq (k : ByteArray) : ∀ (l acc : List (ByteArray × Int)) (K : List (ByteArray × Int) → Prop), foldK k l acc K = K (foldO k acc l)
  | [], _, _ => rfl
  | x :: l, acc, K => by
    have e : foldK k (x :: l) acc K = insK k x acc fun r => foldK k l r K := rfl
    rw [e, insK_eq, foldK_eq k l]
    rfl
noncomputable def needO (k : ByteArray) (l : List ByteArray) (X : Prop) : Prop :=
  List.rec (motive := fun _ => Prop) X (fun y _ ih => cond (Nat.ble (k.size + 1) 1000000) (cond (Nat.ble ((k ++ ⟨#[0]⟩).size + y.size) 1000000) (cond (Nat.ble (k ++ ⟨#[0]⟩ ++ y).size 4000) ih False) False) False) l
theorem needO_mk {k : ByteArray} (hk : k.size ≤ 1000) {X : Prop} (hX : X) : ∀ (l : List ByteArray), (∀ y ∈ l, y.size ≤ 1000) → needO k l X
  | [], _ => hX
  | y :: l, h => by
    have hy := h y (by simp)
    have ih := needO_mk hk hX l (fun z hz => h z (by simp [hz]))
    have e1 : (k ++ ⟨#[0]⟩).size = k.size + 1 := ByteArray.size_append
    have e2 : (k ++ ⟨#[0]⟩ ++ y).size = k.size + 1 + y.size := by rw [ByteArray.size_append, e1]
    refine need_mk (by rw [Nat.ble_eq]; omega) (need_mk (by rw [Nat.ble_eq, e1]; omega) (need_mk (by rw [Nat.ble_eq, e2]; omega) ih))
theorem insO_perm (k : ByteArray) (x : ByteArray × Int) : ∀ l, (insO k x l).Perm (x :: l)
  | [] => List.Perm.refl _
  | y :: l => by
    have e2 : insO k x (y :: l) = cond (ltO k x y) (y :: insO k x l) (x :: y :: l) := rfl
    rw [e2]
    cases ltO k x y with
    | false => exact List.Perm.refl _
    | true => exact ((insO_perm k x l).cons y).trans (List.Perm.swap x y l)
theorem foldO_perm (k : ByteArray) : ∀ l acc, (foldO k acc l).Perm (acc ++ l)
  | [], acc => by simp [foldO]
  | x :: l, acc => by
    have e : foldO k acc (x :: l) = foldO k (insO k x acc) l := rfl
    rw [e]
    refine (foldO_perm k l _).trans ?_
    refine ((insO_perm k x acc).append_right l).trans ?_
    exact List.perm_middle.symm
theorem sortO_perm (k : ByteArray) (l : List (ByteArray × Int)) : (sortO k l).Perm l :=
  (List.reverse_perm _).trans (by simpa using foldO_perm k l [])
theorem sortO_len (k : ByteArray) (l : List (ByteArray × Int)) : (sortO k l).length = l.length := (sortO_perm k l).length_eq
theorem ord_mk {f : FuncId} {k : ByteArray} {l : List (ByteArray × Int)} {n : Nat} (b : Nat) (hn : l.length = n)
    (h : FnOK 0 Tryz.prog f ⟨[fz ⟨l.map instV⟩, .string k]⟩ h0 (fun v g => v = .slice (some ⟨b, 0, none⟩) n n ∧ g.get (blkOf v) = some (.cells ⟨(sortO k l).flatMap instC⟩ 30 (0, 0)))) :
    FnOK 0 Tryz.prog f ⟨[fz ⟨l.map instV⟩, .string k]⟩ h0 (fun v _ => v = fz ⟨(sortO k l).map instV⟩) := by
  refine FnOK.weak1 (h.mono ?_)
  rintro v g ⟨rfl, hb⟩
  have hl := (sortO_len k l).trans hn
  have := freezeI (p := 0) (P := Tryz.prog) (h := g) (b := b) (sortO k l) hb
  rw [hl] at this
  exact ⟨_, _, this, rfl⟩

theorem od_a (k : ByteArray) (w1 : Int) (Q : Value → Option Obj → Prop) : ffn Tryz.prog SO [] 3000 [] Tryz.f25 [fz ⟨[.agg ⟨[.string ⟨#[105, 97]⟩, .int .i64 w1]⟩]⟩, .string k] h0 (fun v h => Q v (h.get (blkOf v))) =
    needO k [⟨#[105, 97]⟩] (foldK k [(⟨#[105, 97]⟩, w1)] [] fun r => Q (.slice (some ⟨4, 0, none⟩) 1 1) (some (.cells ⟨r.reverse.flatMap instC⟩ 30 (0, 0)))) := by kernel_rfl
theorem ord_a (k : ByteArray) (w1 : Int) (hk : k.size ≤ 1000) : FnOK 0 Tryz.prog 25 ⟨[fz ⟨List.map instV [(⟨#[105, 97]⟩, w1)]⟩, .string k]⟩ h0 (fun v _ => v = fz ⟨(sortO k [(⟨#[105, 97]⟩, w1)]).map instV⟩) := by
  refine ord_mk 4 rfl (FnOK.ftree SO_ok mixed Tryz.func25 some25 (od_a k w1 fun v o => v = .slice (some ⟨4, 0, none⟩) 1 1 ∧ o = some (.cells ⟨(sortO k [(⟨#[105, 97]⟩, w1)]).flatMap instC⟩ 30 (0, 0))) ?_)
  refine needO_mk hk ?_ _ (by decide)
  rw [foldK_eq]
  exact ⟨rfl, rfl⟩
theorem od_b (k : ByteArray) (w1 : Int) (Q : Value → Option Obj → Prop) : ffn Tryz.prog SO [] 3000 [] Tryz.f25 [fz ⟨[.agg ⟨[.string ⟨#[105, 98]⟩, .int .i64 w1]⟩]⟩, .string k] h0 (fun v h => Q v (h.get (blkOf v))) =
    needO k [⟨#[105, 98]⟩] (foldK k [(⟨#[105, 98]⟩, w1)] [] fun r => Q (.slice (some ⟨4, 0, none⟩) 1 1) (some (.cells ⟨r.reverse.flatMap instC⟩ 30 (0, 0)))) := by kernel_rfl
theorem ord_b (k : ByteArray) (w1 : Int) (hk : k.size ≤ 1000) : FnOK 0 Tryz.prog 25 ⟨[fz ⟨List.map instV [(⟨#[105, 98]⟩, w1)]⟩, .string k]⟩ h0 (fun v _ => v = fz ⟨(sortO k [(⟨#[105, 98]⟩, w1)]).map instV⟩) := by
  refine ord_mk 4 rfl (FnOK.ftree SO_ok mixed Tryz.func25 some25 (od_b k w1 fun v o => v = .slice (some ⟨4, 0, none⟩) 1 1 ∧ o = some (.cells ⟨(sortO k [(⟨#[105, 98]⟩, w1)]).flatMap instC⟩ 30 (0, 0))) ?_)
  refine needO_mk hk ?_ _ (by decide)
  rw [foldK_eq]
  exact ⟨rfl, rfl⟩
theorem od_c (k : ByteArray) (w1 : Int) (Q : Value → Option Obj → Prop) : ffn Tryz.prog SO [] 3000 [] Tryz.f25 [fz ⟨[.agg ⟨[.string ⟨#[105, 99]⟩, .int .i64 w1]⟩]⟩, .string k] h0 (fun v h => Q v (h.get (blkOf v))) =
    needO k [⟨#[105, 99]⟩] (foldK k [(⟨#[105, 99]⟩, w1)] [] fun r => Q (.slice (some ⟨4, 0, none⟩) 1 1) (some (.cells ⟨r.reverse.flatMap instC⟩ 30 (0, 0)))) := by kernel_rfl
theorem ord_c (k : ByteArray) (w1 : Int) (hk : k.size ≤ 1000) : FnOK 0 Tryz.prog 25 ⟨[fz ⟨List.map instV [(⟨#[105, 99]⟩, w1)]⟩, .string k]⟩ h0 (fun v _ => v = fz ⟨(sortO k [(⟨#[105, 99]⟩, w1)]).map instV⟩) := by
  refine ord_mk 4 rfl (FnOK.ftree SO_ok mixed Tryz.func25 some25 (od_c k w1 fun v o => v = .slice (some ⟨4, 0, none⟩) 1 1 ∧ o = some (.cells ⟨(sortO k [(⟨#[105, 99]⟩, w1)]).flatMap instC⟩ 30 (0, 0))) ?_)
  refine needO_mk hk ?_ _ (by decide)
  rw [foldK_eq]
  exact ⟨rfl, rfl⟩
theorem od_d (k : ByteArray) (w1 : Int) (Q : Value → Option Obj → Prop) : ffn Tryz.prog SO [] 3000 [] Tryz.f25 [fz ⟨[.agg ⟨[.string ⟨#[105, 100]⟩, .int .i64 w1]⟩]⟩, .string k] h0 (fun v h => Q v (h.get (blkOf v))) =
    needO k [⟨#[105, 100]⟩] (foldK k [(⟨#[105, 100]⟩, w1)] [] fun r => Q (.slice (some ⟨4, 0, none⟩) 1 1) (some (.cells ⟨r.reverse.flatMap instC⟩ 30 (0, 0)))) := by kernel_rfl
theorem ord_d (k : ByteArray) (w1 : Int) (hk : k.size ≤ 1000) : FnOK 0 Tryz.prog 25 ⟨[fz ⟨List.map instV [(⟨#[105, 100]⟩, w1)]⟩, .string k]⟩ h0 (fun v _ => v = fz ⟨(sortO k [(⟨#[105, 100]⟩, w1)]).map instV⟩) := by
  refine ord_mk 4 rfl (FnOK.ftree SO_ok mixed Tryz.func25 some25 (od_d k w1 fun v o => v = .slice (some ⟨4, 0, none⟩) 1 1 ∧ o = some (.cells ⟨(sortO k [(⟨#[105, 100]⟩, w1)]).flatMap instC⟩ 30 (0, 0))) ?_)
  refine needO_mk hk ?_ _ (by decide)
  rw [foldK_eq]
  exact ⟨rfl, rfl⟩
theorem od_ab (k : ByteArray) (w1 w2 : Int) (Q : Value → Option Obj → Prop) : ffn Tryz.prog SO [] 3000 [] Tryz.f25 [fz ⟨[.agg ⟨[.string ⟨#[105, 97]⟩, .int .i64 w1]⟩, .agg ⟨[.string ⟨#[105, 98]⟩, .int .i64 w2]⟩]⟩, .string k] h0 (fun v h => Q v (h.get (blkOf v))) =
    needO k [⟨#[105, 97]⟩, ⟨#[105, 98]⟩] (foldK k [(⟨#[105, 97]⟩, w1), (⟨#[105, 98]⟩, w2)] [] fun r => Q (.slice (some ⟨5, 0, none⟩) 2 2) (some (.cells ⟨r.reverse.flatMap instC⟩ 30 (0, 0)))) := by kernel_rfl
theorem ord_ab (k : ByteArray) (w1 w2 : Int) (hk : k.size ≤ 1000) : FnOK 0 Tryz.prog 25 ⟨[fz ⟨List.map instV [(⟨#[105, 97]⟩, w1), (⟨#[105, 98]⟩, w2)]⟩, .string k]⟩ h0 (fun v _ => v = fz ⟨(sortO k [(⟨#[105, 97]⟩, w1), (⟨#[105, 98]⟩, w2)]).map instV⟩) := by
  refine ord_mk 5 rfl (FnOK.ftree SO_ok mixed Tryz.func25 some25 (od_ab k w1 w2 fun v o => v = .slice (some ⟨5, 0, none⟩) 2 2 ∧ o = some (.cells ⟨(sortO k [(⟨#[105, 97]⟩, w1), (⟨#[105, 98]⟩, w2)]).flatMap instC⟩ 30 (0, 0))) ?_)
  refine needO_mk hk ?_ _ (by decide)
  rw [foldK_eq]
  exact ⟨rfl, rfl⟩
theorem od_ac (k : ByteArray) (w1 w2 : Int) (Q : Value → Option Obj → Prop) : ffn Tryz.prog SO [] 3000 [] Tryz.f25 [fz ⟨[.agg ⟨[.string ⟨#[105, 97]⟩, .int .i64 w1]⟩, .agg ⟨[.string ⟨#[105, 99]⟩, .int .i64 w2]⟩]⟩, .string k] h0 (fun v h => Q v (h.get (blkOf v))) =
    needO k [⟨#[105, 97]⟩, ⟨#[105, 99]⟩] (foldK k [(⟨#[105, 97]⟩, w1), (⟨#[105, 99]⟩, w2)] [] fun r => Q (.slice (some ⟨5, 0, none⟩) 2 2) (some (.cells ⟨r.reverse.flatMap instC⟩ 30 (0, 0)))) := by kernel_rfl
theorem ord_ac (k : ByteArray) (w1 w2 : Int) (hk : k.size ≤ 1000) : FnOK 0 Tryz.prog 25 ⟨[fz ⟨List.map instV [(⟨#[105, 97]⟩, w1), (⟨#[105, 99]⟩, w2)]⟩, .string k]⟩ h0 (fun v _ => v = fz ⟨(sortO k [(⟨#[105, 97]⟩, w1), (⟨#[105, 99]⟩, w2)]).map instV⟩) := by
  refine ord_mk 5 rfl (FnOK.ftree SO_ok mixed Tryz.func25 some25 (od_ac k w1 w2 fun v o => v = .slice (some ⟨5, 0, none⟩) 2 2 ∧ o = some (.cells ⟨(sortO k [(⟨#[105, 97]⟩, w1), (⟨#[105, 99]⟩, w2)]).flatMap instC⟩ 30 (0, 0))) ?_)
  refine needO_mk hk ?_ _ (by decide)
  rw [foldK_eq]
  exact ⟨rfl, rfl⟩
theorem od_ad (k : ByteArray) (w1 w2 : Int) (Q : Value → Option Obj → Prop) : ffn Tryz.prog SO [] 3000 [] Tryz.f25 [fz ⟨[.agg ⟨[.string ⟨#[105, 97]⟩, .int .i64 w1]⟩, .agg ⟨[.string ⟨#[105, 100]⟩, .int .i64 w2]⟩]⟩, .string k] h0 (fun v h => Q v (h.get (blkOf v))) =
    needO k [⟨#[105, 97]⟩, ⟨#[105, 100]⟩] (foldK k [(⟨#[105, 97]⟩, w1), (⟨#[105, 100]⟩, w2)] [] fun r => Q (.slice (some ⟨5, 0, none⟩) 2 2) (some (.cells ⟨r.reverse.flatMap instC⟩ 30 (0, 0)))) := by kernel_rfl
theorem ord_ad (k : ByteArray) (w1 w2 : Int) (hk : k.size ≤ 1000) : FnOK 0 Tryz.prog 25 ⟨[fz ⟨List.map instV [(⟨#[105, 97]⟩, w1), (⟨#[105, 100]⟩, w2)]⟩, .string k]⟩ h0 (fun v _ => v = fz ⟨(sortO k [(⟨#[105, 97]⟩, w1), (⟨#[105, 100]⟩, w2)]).map instV⟩) := by
  refine ord_mk 5 rfl (FnOK.ftree SO_ok mixed Tryz.func25 some25 (od_ad k w1 w2 fun v o => v = .slice (some ⟨5, 0, none⟩) 2 2 ∧ o = some (.cells ⟨(sortO k [(⟨#[105, 97]⟩, w1), (⟨#[105, 100]⟩, w2)]).flatMap instC⟩ 30 (0, 0))) ?_)
  refine needO_mk hk ?_ _ (by decide)
  rw [foldK_eq]
  exact ⟨rfl, rfl⟩
theorem od_bc (k : ByteArray) (w1 w2 : Int) (Q : Value → Option Obj → Prop) : ffn Tryz.prog SO [] 3000 [] Tryz.f25 [fz ⟨[.agg ⟨[.string ⟨#[105, 98]⟩, .int .i64 w1]⟩, .agg ⟨[.string ⟨#[105, 99]⟩, .int .i64 w2]⟩]⟩, .string k] h0 (fun v h => Q v (h.get (blkOf v))) =
    needO k [⟨#[105, 98]⟩, ⟨#[105, 99]⟩] (foldK k [(⟨#[105, 98]⟩, w1), (⟨#[105, 99]⟩, w2)] [] fun r => Q (.slice (some ⟨5, 0, none⟩) 2 2) (some (.cells ⟨r.reverse.flatMap instC⟩ 30 (0, 0)))) := by kernel_rfl
theorem ord_bc (k : ByteArray) (w1 w2 : Int) (hk : k.size ≤ 1000) : FnOK 0 Tryz.prog 25 ⟨[fz ⟨List.map instV [(⟨#[105, 98]⟩, w1), (⟨#[105, 99]⟩, w2)]⟩, .string k]⟩ h0 (fun v _ => v = fz ⟨(sortO k [(⟨#[105, 98]⟩, w1), (⟨#[105, 99]⟩, w2)]).map instV⟩) := by
  refine ord_mk 5 rfl (FnOK.ftree SO_ok mixed Tryz.func25 some25 (od_bc k w1 w2 fun v o => v = .slice (some ⟨5, 0, none⟩) 2 2 ∧ o = some (.cells ⟨(sortO k [(⟨#[105, 98]⟩, w1), (⟨#[105, 99]⟩, w2)]).flatMap instC⟩ 30 (0, 0))) ?_)
  refine needO_mk hk ?_ _ (by decide)
  rw [foldK_eq]
  exact ⟨rfl, rfl⟩
theorem od_bd (k : ByteArray) (w1 w2 : Int) (Q : Value → Option Obj → Prop) : ffn Tryz.prog SO [] 3000 [] Tryz.f25 [fz ⟨[.agg ⟨[.string ⟨#[105, 98]⟩, .int .i64 w1]⟩, .agg ⟨[.string ⟨#[105, 100]⟩, .int .i64 w2]⟩]⟩, .string k] h0 (fun v h => Q v (h.get (blkOf v))) =
    needO k [⟨#[105, 98]⟩, ⟨#[105, 100]⟩] (foldK k [(⟨#[105, 98]⟩, w1), (⟨#[105, 100]⟩, w2)] [] fun r => Q (.slice (some ⟨5, 0, none⟩) 2 2) (some (.cells ⟨r.reverse.flatMap instC⟩ 30 (0, 0)))) := by kernel_rfl
theorem ord_bd (k : ByteArray) (w1 w2 : Int) (hk : k.size ≤ 1000) : FnOK 0 Tryz.prog 25 ⟨[fz ⟨List.map instV [(⟨#[105, 98]⟩, w1), (⟨#[105, 100]⟩, w2)]⟩, .string k]⟩ h0 (fun v _ => v = fz ⟨(sortO k [(⟨#[105, 98]⟩, w1), (⟨#[105, 100]⟩, w2)]).map instV⟩) := by
  refine ord_mk 5 rfl (FnOK.ftree SO_ok mixed Tryz.func25 some25 (od_bd k w1 w2 fun v o => v = .slice (some ⟨5, 0, none⟩) 2 2 ∧ o = some (.cells ⟨(sortO k [(⟨#[105, 98]⟩, w1), (⟨#[105, 100]⟩, w2)]).flatMap instC⟩ 30 (0, 0))) ?_)
  refine needO_mk hk ?_ _ (by decide)
  rw [foldK_eq]
  exact ⟨rfl, rfl⟩
theorem od_cd (k : ByteArray) (w1 w2 : Int) (Q : Value → Option Obj → Prop) : ffn Tryz.prog SO [] 3000 [] Tryz.f25 [fz ⟨[.agg ⟨[.string ⟨#[105, 99]⟩, .int .i64 w1]⟩, .agg ⟨[.string ⟨#[105, 100]⟩, .int .i64 w2]⟩]⟩, .string k] h0 (fun v h => Q v (h.get (blkOf v))) =
    needO k [⟨#[105, 99]⟩, ⟨#[105, 100]⟩] (foldK k [(⟨#[105, 99]⟩, w1), (⟨#[105, 100]⟩, w2)] [] fun r => Q (.slice (some ⟨5, 0, none⟩) 2 2) (some (.cells ⟨r.reverse.flatMap instC⟩ 30 (0, 0)))) := by kernel_rfl
theorem ord_cd (k : ByteArray) (w1 w2 : Int) (hk : k.size ≤ 1000) : FnOK 0 Tryz.prog 25 ⟨[fz ⟨List.map instV [(⟨#[105, 99]⟩, w1), (⟨#[105, 100]⟩, w2)]⟩, .string k]⟩ h0 (fun v _ => v = fz ⟨(sortO k [(⟨#[105, 99]⟩, w1), (⟨#[105, 100]⟩, w2)]).map instV⟩) := by
  refine ord_mk 5 rfl (FnOK.ftree SO_ok mixed Tryz.func25 some25 (od_cd k w1 w2 fun v o => v = .slice (some ⟨5, 0, none⟩) 2 2 ∧ o = some (.cells ⟨(sortO k [(⟨#[105, 99]⟩, w1), (⟨#[105, 100]⟩, w2)]).flatMap instC⟩ 30 (0, 0))) ?_)
  refine needO_mk hk ?_ _ (by decide)
  rw [foldK_eq]
  exact ⟨rfl, rfl⟩
theorem od_abc (k : ByteArray) (w1 w2 w3 : Int) (Q : Value → Option Obj → Prop) : ffn Tryz.prog SO [] 3000 [] Tryz.f25 [fz ⟨[.agg ⟨[.string ⟨#[105, 97]⟩, .int .i64 w1]⟩, .agg ⟨[.string ⟨#[105, 98]⟩, .int .i64 w2]⟩, .agg ⟨[.string ⟨#[105, 99]⟩, .int .i64 w3]⟩]⟩, .string k] h0 (fun v h => Q v (h.get (blkOf v))) =
    needO k [⟨#[105, 97]⟩, ⟨#[105, 98]⟩, ⟨#[105, 99]⟩] (foldK k [(⟨#[105, 97]⟩, w1), (⟨#[105, 98]⟩, w2), (⟨#[105, 99]⟩, w3)] [] fun r => Q (.slice (some ⟨6, 0, none⟩) 3 3) (some (.cells ⟨r.reverse.flatMap instC⟩ 30 (0, 0)))) := by kernel_rfl
theorem ord_abc (k : ByteArray) (w1 w2 w3 : Int) (hk : k.size ≤ 1000) : FnOK 0 Tryz.prog 25 ⟨[fz ⟨List.map instV [(⟨#[105, 97]⟩, w1), (⟨#[105, 98]⟩, w2), (⟨#[105, 99]⟩, w3)]⟩, .string k]⟩ h0 (fun v _ => v = fz ⟨(sortO k [(⟨#[105, 97]⟩, w1), (⟨#[105, 98]⟩, w2), (⟨#[105, 99]⟩, w3)]).map instV⟩) := by
  refine ord_mk 6 rfl (FnOK.ftree SO_ok mixed Tryz.func25 some25 (od_abc k w1 w2 w3 fun v o => v = .slice (some ⟨6, 0, none⟩) 3 3 ∧ o = some (.cells ⟨(sortO k [(⟨#[105, 97]⟩, w1), (⟨#[105, 98]⟩, w2), (⟨#[105, 99]⟩, w3)]).flatMap instC⟩ 30 (0, 0))) ?_)
  refine needO_mk hk ?_ _ (by decide)
  rw [foldK_eq]
  exact ⟨rfl, rfl⟩
theorem od_abd (k : ByteArray) (w1 w2 w3 : Int) (Q : Value → Option Obj → Prop) : ffn Tryz.prog SO [] 3000 [] Tryz.f25 [fz ⟨[.agg ⟨[.string ⟨#[105, 97]⟩, .int .i64 w1]⟩, .agg ⟨[.string ⟨#[105, 98]⟩, .int .i64 w2]⟩, .agg ⟨[.string ⟨#[105, 100]⟩, .int .i64 w3]⟩]⟩, .string k] h0 (fun v h => Q v (h.get (blkOf v))) =
    needO k [⟨#[105, 97]⟩, ⟨#[105, 98]⟩, ⟨#[105, 100]⟩] (foldK k [(⟨#[105, 97]⟩, w1), (⟨#[105, 98]⟩, w2), (⟨#[105, 100]⟩, w3)] [] fun r => Q (.slice (some ⟨6, 0, none⟩) 3 3) (some (.cells ⟨r.reverse.flatMap instC⟩ 30 (0, 0)))) := by kernel_rfl
theorem ord_abd (k : ByteArray) (w1 w2 w3 : Int) (hk : k.size ≤ 1000) : FnOK 0 Tryz.prog 25 ⟨[fz ⟨List.map instV [(⟨#[105, 97]⟩, w1), (⟨#[105, 98]⟩, w2), (⟨#[105, 100]⟩, w3)]⟩, .string k]⟩ h0 (fun v _ => v = fz ⟨(sortO k [(⟨#[105, 97]⟩, w1), (⟨#[105, 98]⟩, w2), (⟨#[105, 100]⟩, w3)]).map instV⟩) := by
  refine ord_mk 6 rfl (FnOK.ftree SO_ok mixed Tryz.func25 some25 (od_abd k w1 w2 w3 fun v o => v = .slice (some ⟨6, 0, none⟩) 3 3 ∧ o = some (.cells ⟨(sortO k [(⟨#[105, 97]⟩, w1), (⟨#[105, 98]⟩, w2), (⟨#[105, 100]⟩, w3)]).flatMap instC⟩ 30 (0, 0))) ?_)
  refine needO_mk hk ?_ _ (by decide)
  rw [foldK_eq]
  exact ⟨rfl, rfl⟩
theorem od_acd (k : ByteArray) (w1 w2 w3 : Int) (Q : Value → Option Obj → Prop) : ffn Tryz.prog SO [] 3000 [] Tryz.f25 [fz ⟨[.agg ⟨[.string ⟨#[105, 97]⟩, .int .i64 w1]⟩, .agg ⟨[.string ⟨#[105, 99]⟩, .int .i64 w2]⟩, .agg ⟨[.string ⟨#[105, 100]⟩, .int .i64 w3]⟩]⟩, .string k] h0 (fun v h => Q v (h.get (blkOf v))) =
    needO k [⟨#[105, 97]⟩, ⟨#[105, 99]⟩, ⟨#[105, 100]⟩] (foldK k [(⟨#[105, 97]⟩, w1), (⟨#[105, 99]⟩, w2), (⟨#[105, 100]⟩, w3)] [] fun r => Q (.slice (some ⟨6, 0, none⟩) 3 3) (some (.cells ⟨r.reverse.flatMap instC⟩ 30 (0, 0)))) := by kernel_rfl
theorem ord_acd (k : ByteArray) (w1 w2 w3 : Int) (hk : k.size ≤ 1000) : FnOK 0 Tryz.prog 25 ⟨[fz ⟨List.map instV [(⟨#[105, 97]⟩, w1), (⟨#[105, 99]⟩, w2), (⟨#[105, 100]⟩, w3)]⟩, .string k]⟩ h0 (fun v _ => v = fz ⟨(sortO k [(⟨#[105, 97]⟩, w1), (⟨#[105, 99]⟩, w2), (⟨#[105, 100]⟩, w3)]).map instV⟩) := by
  refine ord_mk 6 rfl (FnOK.ftree SO_ok mixed Tryz.func25 some25 (od_acd k w1 w2 w3 fun v o => v = .slice (some ⟨6, 0, none⟩) 3 3 ∧ o = some (.cells ⟨(sortO k [(⟨#[105, 97]⟩, w1), (⟨#[105, 99]⟩, w2), (⟨#[105, 100]⟩, w3)]).flatMap instC⟩ 30 (0, 0))) ?_)
  refine needO_mk hk ?_ _ (by decide)
  rw [foldK_eq]
  exact ⟨rfl, rfl⟩
theorem od_bcd (k : ByteArray) (w1 w2 w3 : Int) (Q : Value → Option Obj → Prop) : ffn Tryz.prog SO [] 3000 [] Tryz.f25 [fz ⟨[.agg ⟨[.string ⟨#[105, 98]⟩, .int .i64 w1]⟩, .agg ⟨[.string ⟨#[105, 99]⟩, .int .i64 w2]⟩, .agg ⟨[.string ⟨#[105, 100]⟩, .int .i64 w3]⟩]⟩, .string k] h0 (fun v h => Q v (h.get (blkOf v))) =
    needO k [⟨#[105, 98]⟩, ⟨#[105, 99]⟩, ⟨#[105, 100]⟩] (foldK k [(⟨#[105, 98]⟩, w1), (⟨#[105, 99]⟩, w2), (⟨#[105, 100]⟩, w3)] [] fun r => Q (.slice (some ⟨6, 0, none⟩) 3 3) (some (.cells ⟨r.reverse.flatMap instC⟩ 30 (0, 0)))) := by kernel_rfl
theorem ord_bcd (k : ByteArray) (w1 w2 w3 : Int) (hk : k.size ≤ 1000) : FnOK 0 Tryz.prog 25 ⟨[fz ⟨List.map instV [(⟨#[105, 98]⟩, w1), (⟨#[105, 99]⟩, w2), (⟨#[105, 100]⟩, w3)]⟩, .string k]⟩ h0 (fun v _ => v = fz ⟨(sortO k [(⟨#[105, 98]⟩, w1), (⟨#[105, 99]⟩, w2), (⟨#[105, 100]⟩, w3)]).map instV⟩) := by
  refine ord_mk 6 rfl (FnOK.ftree SO_ok mixed Tryz.func25 some25 (od_bcd k w1 w2 w3 fun v o => v = .slice (some ⟨6, 0, none⟩) 3 3 ∧ o = some (.cells ⟨(sortO k [(⟨#[105, 98]⟩, w1), (⟨#[105, 99]⟩, w2), (⟨#[105, 100]⟩, w3)]).flatMap instC⟩ 30 (0, 0))) ?_)
  refine needO_mk hk ?_ _ (by decide)
  rw [foldK_eq]
  exact ⟨rfl, rfl⟩
theorem od_abcd (k : ByteArray) (w1 w2 w3 w4 : Int) (Q : Value → Option Obj → Prop) : ffn Tryz.prog SO [] 3000 [] Tryz.f25 [fz ⟨[.agg ⟨[.string ⟨#[105, 97]⟩, .int .i64 w1]⟩, .agg ⟨[.string ⟨#[105, 98]⟩, .int .i64 w2]⟩, .agg ⟨[.string ⟨#[105, 99]⟩, .int .i64 w3]⟩, .agg ⟨[.string ⟨#[105, 100]⟩, .int .i64 w4]⟩]⟩, .string k] h0 (fun v h => Q v (h.get (blkOf v))) =
    needO k [⟨#[105, 97]⟩, ⟨#[105, 98]⟩, ⟨#[105, 99]⟩, ⟨#[105, 100]⟩] (foldK k [(⟨#[105, 97]⟩, w1), (⟨#[105, 98]⟩, w2), (⟨#[105, 99]⟩, w3), (⟨#[105, 100]⟩, w4)] [] fun r => Q (.slice (some ⟨7, 0, none⟩) 4 4) (some (.cells ⟨r.reverse.flatMap instC⟩ 30 (0, 0)))) := by kernel_rfl
theorem ord_abcd (k : ByteArray) (w1 w2 w3 w4 : Int) (hk : k.size ≤ 1000) : FnOK 0 Tryz.prog 25 ⟨[fz ⟨List.map instV [(⟨#[105, 97]⟩, w1), (⟨#[105, 98]⟩, w2), (⟨#[105, 99]⟩, w3), (⟨#[105, 100]⟩, w4)]⟩, .string k]⟩ h0 (fun v _ => v = fz ⟨(sortO k [(⟨#[105, 97]⟩, w1), (⟨#[105, 98]⟩, w2), (⟨#[105, 99]⟩, w3), (⟨#[105, 100]⟩, w4)]).map instV⟩) := by
  refine ord_mk 7 rfl (FnOK.ftree SO_ok mixed Tryz.func25 some25 (od_abcd k w1 w2 w3 w4 fun v o => v = .slice (some ⟨7, 0, none⟩) 4 4 ∧ o = some (.cells ⟨(sortO k [(⟨#[105, 97]⟩, w1), (⟨#[105, 98]⟩, w2), (⟨#[105, 99]⟩, w3), (⟨#[105, 100]⟩, w4)]).flatMap instC⟩ 30 (0, 0))) ?_)
  refine needO_mk hk ?_ _ (by decide)
  rw [foldK_eq]
  exact ⟨rfl, rfl⟩
def keys4 : List (List ByteArray) := [[⟨#[105, 97]⟩], [⟨#[105, 98]⟩], [⟨#[105, 99]⟩], [⟨#[105, 100]⟩], [⟨#[105, 97]⟩, ⟨#[105, 98]⟩], [⟨#[105, 97]⟩, ⟨#[105, 99]⟩], [⟨#[105, 97]⟩, ⟨#[105, 100]⟩], [⟨#[105, 98]⟩, ⟨#[105, 99]⟩], [⟨#[105, 98]⟩, ⟨#[105, 100]⟩], [⟨#[105, 99]⟩, ⟨#[105, 100]⟩], [⟨#[105, 97]⟩, ⟨#[105, 98]⟩, ⟨#[105, 99]⟩], [⟨#[105, 97]⟩, ⟨#[105, 98]⟩, ⟨#[105, 100]⟩], [⟨#[105, 97]⟩, ⟨#[105, 99]⟩, ⟨#[105, 100]⟩], [⟨#[105, 98]⟩, ⟨#[105, 99]⟩, ⟨#[105, 100]⟩], [⟨#[105, 97]⟩, ⟨#[105, 98]⟩, ⟨#[105, 99]⟩, ⟨#[105, 100]⟩]]
theorem ord4_fn (k : ByteArray) (hk : k.size ≤ 1000) (l : List (ByteArray × Int)) (h : l.map Prod.fst ∈ keys4) : FnOK 0 Tryz.prog 25 ⟨[fz ⟨l.map instV⟩, .string k]⟩ h0 (fun v _ => v = fz ⟨(sortO k l).map instV⟩) := by
  simp only [keys4, List.mem_cons, List.not_mem_nil, or_false] at h
  rcases h with h | h | h | h | h | h | h | h | h | h | h | h | h | h | h
  · match l, h with
    | [(a0, w0)], h =>
      simp only [List.map_cons, List.map_nil, List.cons.injEq, and_true] at h
      subst h
      exact ord_a k w0 hk
  · match l, h with
    | [(a0, w0)], h =>
      simp only [List.map_cons, List.map_nil, List.cons.injEq, and_true] at h
      subst h
      exact ord_b k w0 hk
  · match l, h with
    | [(a0, w0)], h =>
      simp only [List.map_cons, List.map_nil, List.cons.injEq, and_true] at h
      subst h
      exact ord_c k w0 hk
  · match l, h with
    | [(a0, w0)], h =>
      simp only [List.map_cons, List.map_nil, List.cons.injEq, and_true] at h
      subst h
      exact ord_d k w0 hk
  · match l, h with
    | [(a0, w0), (a1, w1)], h =>
      simp only [List.map_cons, List.map_nil, List.cons.injEq, and_true] at h
      obtain ⟨rfl, rfl⟩ := h
      exact ord_ab k w0 w1 hk
  · match l, h with
    | [(a0, w0), (a1, w1)], h =>
      simp only [List.map_cons, List.map_nil, List.cons.injEq, and_true] at h
      obtain ⟨rfl, rfl⟩ := h
      exact ord_ac k w0 w1 hk
  · match l, h with
    | [(a0, w0), (a1, w1)], h =>
      simp only [List.map_cons, List.map_nil, List.cons.injEq, and_true] at h
      obtain ⟨rfl, rfl⟩ := h
      exact ord_ad k w0 w1 hk
  · match l, h with
    | [(a0, w0), (a1, w1)], h =>
      simp only [List.map_cons, List.map_nil, List.cons.injEq, and_true] at h
      obtain ⟨rfl, rfl⟩ := h
      exact ord_bc k w0 w1 hk
  · match l, h with
    | [(a0, w0), (a1, w1)], h =>
      simp only [List.map_cons, List.map_nil, List.cons.injEq, and_true] at h
      obtain ⟨rfl, rfl⟩ := h
      exact ord_bd k w0 w1 hk
  · match l, h with
    | [(a0, w0), (a1, w1)], h =>
      simp only [List.map_cons, List.map_nil, List.cons.injEq, and_true] at h
      obtain ⟨rfl, rfl⟩ := h
      exact ord_cd k w0 w1 hk
  · match l, h with
    | [(a0, w0), (a1, w1), (a2, w2)], h =>
      simp only [List.map_cons, List.map_nil, List.cons.injEq, and_true] at h
      obtain ⟨rfl, rfl, rfl⟩ := h
      exact ord_abc k w0 w1 w2 hk
  · match l, h with
    | [(a0, w0), (a1, w1), (a2, w2)], h =>
      simp only [List.map_cons, List.map_nil, List.cons.injEq, and_true] at h
      obtain ⟨rfl, rfl, rfl⟩ := h
      exact ord_abd k w0 w1 w2 hk
  · match l, h with
    | [(a0, w0), (a1, w1), (a2, w2)], h =>
      simp only [List.map_cons, List.map_nil, List.cons.injEq, and_true] at h
      obtain ⟨rfl, rfl, rfl⟩ := h
      exact ord_acd k w0 w1 w2 hk
  · match l, h with
    | [(a0, w0), (a1, w1), (a2, w2)], h =>
      simp only [List.map_cons, List.map_nil, List.cons.injEq, and_true] at h
      obtain ⟨rfl, rfl, rfl⟩ := h
      exact ord_bcd k w0 w1 w2 hk
  · match l, h with
    | [(a0, w0), (a1, w1), (a2, w2), (a3, w3)], h =>
      simp only [List.map_cons, List.map_nil, List.cons.injEq, and_true] at h
      obtain ⟨rfl, rfl, rfl, rfl⟩ := h
      exact ord_abcd k w0 w1 w2 w3 hk
end Go.Proofs.YtbkccelgffopcaaGreatDoor
