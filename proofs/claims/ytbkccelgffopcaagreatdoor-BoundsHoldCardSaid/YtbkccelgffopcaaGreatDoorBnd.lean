/-
  'Bounded' takes somebody who has not too much, if there is one.
-/
import Derived.Test.YtbkccelgffopcaaGreatDoorInst
namespace Go.Proofs.YtbkccelgffopcaaGreatDoor
open Go.Ev Go.RowKit

theorem some36 : Tryz.f36.body.isSome = true := by kernel_rfl
noncomputable def sumV (xs : List Value) : Int → Int := List.rec (motive := fun _ => Int → Int) (fun a => a) (fun v _ ih a => ih (IntKind.i64.wrap (a + toInt (v.cells.toList.getD 1 undef)))) xs
theorem wt1 (a1 : ByteArray) (w1 : Int) (Q : Value → Prop) : ffn Tryz.prog SN [] 500 [] Tryz.f36 [fz ⟨[.agg ⟨[.string a1, .int .i64 w1]⟩]⟩] h0 (fun v _ => Q v) = Q (.int .i64 (sumV [.agg ⟨[.string a1, .int .i64 w1]⟩] 0)) := by kernel_rfl
theorem wt2 (a1 a2 : ByteArray) (w1 w2 : Int) (Q : Value → Prop) : ffn Tryz.prog SN [] 500 [] Tryz.f36 [fz ⟨[.agg ⟨[.string a1, .int .i64 w1]⟩, .agg ⟨[.string a2, .int .i64 w2]⟩]⟩] h0 (fun v _ => Q v) = Q (.int .i64 (sumV [.agg ⟨[.string a1, .int .i64 w1]⟩, .agg ⟨[.string a2, .int .i64 w2]⟩] 0)) := by kernel_rfl
theorem wt3 (a1 a2 a3 : ByteArray) (w1 w2 w3 : Int) (Q : Value → Prop) : ffn Tryz.prog SN [] 500 [] Tryz.f36 [fz ⟨[.agg ⟨[.string a1, .int .i64 w1]⟩, .agg ⟨[.string a2, .int .i64 w2]⟩, .agg ⟨[.string a3, .int .i64 w3]⟩]⟩] h0 (fun v _ => Q v) = Q (.int .i64 (sumV [.agg ⟨[.string a1, .int .i64 w1]⟩, .agg ⟨[.string a2, .int .i64 w2]⟩, .agg ⟨[.string a3, .int .i64 w3]⟩] 0)) := by kernel_rfl
theorem wt4 (a1 a2 a3 a4 : ByteArray) (w1 w2 w3 w4 : Int) (Q : Value → Prop) : ffn Tryz.prog SN [] 500 [] Tryz.f36 [fz ⟨[.agg ⟨[.string a1, .int .i64 w1]⟩, .agg ⟨[.string a2, .int .i64 w2]⟩, .agg ⟨[.string a3, .int .i64 w3]⟩, .agg ⟨[.string a4, .int .i64 w4]⟩]⟩] h0 (fun v _ => Q v) = Q (.int .i64 (sumV [.agg ⟨[.string a1, .int .i64 w1]⟩, .agg ⟨[.string a2, .int .i64 w2]⟩, .agg ⟨[.string a3, .int .i64 w3]⟩, .agg ⟨[.string a4, .int .i64 w4]⟩] 0)) := by kernel_rfl
theorem wt_fn (xs : List Value) (h : xs.all isInst = true) (hl : Nat.ble xs.length 4 = true) (h0 : Nat.ble 1 xs.length = true) : FnOK 0 Tryz.prog 36 ⟨[fz ⟨xs⟩]⟩ Ev.h0 (fun v _ => v = .int .i64 (sumV xs 0)) := by
  rw [← isInst_all h] at hl h0 ⊢
  generalize plist xs = l at *
  match l, hl, h0 with
  | [], _, h0 => cases h0
  | [p1], _, _ => exact FnOK.ftree SN_ok mixed Tryz.func36 some36 (wt1 p1.1 p1.2 fun v => v = _) rfl
  | [p1, p2], _, _ => exact FnOK.ftree SN_ok mixed Tryz.func36 some36 (wt2 p1.1 p2.1 p1.2 p2.2 fun v => v = _) rfl
  | [p1, p2, p3], _, _ => exact FnOK.ftree SN_ok mixed Tryz.func36 some36 (wt3 p1.1 p2.1 p3.1 p1.2 p2.2 p3.2 fun v => v = _) rfl
  | [p1, p2, p3, p4], _, _ => exact FnOK.ftree SN_ok mixed Tryz.func36 some36 (wt4 p1.1 p2.1 p3.1 p4.1 p1.2 p2.2 p3.2 p4.2 fun v => v = _) rfl
  | _ :: _ :: _ :: _ :: _ :: _, hl, _ => simp at hl
noncomputable def spWt (f : FuncId) (args : Array Value) (h : AH) : Option (Bool × Value × AH) :=
  cond (Nat.beq f 36) (match args with
    | ⟨[.func (.yield 0) ⟨xs⟩ ⟨[]⟩]⟩ => some (xs.all isInst && Nat.ble xs.length 4 && Nat.ble 1 xs.length, .int .i64 (sumV xs 0), h)
    | _ => none) none
theorem spWt_ok : SpOK spWt := by
  intro f args h v h' hs
  unfold spWt at hs
  obtain ⟨hf, hs2⟩ := cond_some hs
  clear hs
  have := Nat.eq_of_beq_eq_true hf
  subst this
  split at hs2
  · injection hs2 with hs
    injection hs with hb hs
    injection hs with hv hh
    subst hv hh
    simp only [Bool.and_eq_true] at hb
    exact ⟨FnOK.pure (wt_fn _ hb.1.1 hb.1.2 hb.2) rfl rfl h, Nat.le_refl _⟩
  · cases hs2
noncomputable def SBd (ys : List (ByteArray × Int)) : SC := ⟨idn, spOr spChkI (spOr spPlace (spOr spWt (spOrdT ys))), false, true⟩
theorem SBd_ok (ys : List (ByteArray × Int)) : (SBd ys).cfg.OK Tryz.prog := (spChkI_ok.or (spPlace_ok.or (spWt_ok.or (spOrdT_ok ys)))).cfg
theorem some16 : Tryz.f16.body.isSome = true := by kernel_rfl
/-- An instance with its load: key, weight, load. -/
abbrev KWN := ByteArray × Int × Int
noncomputable def nsK (l : List KWN) (E X : Prop) : Prop := List.rec (motive := fun _ => Prop) X (fun p _ ih => cond (decide (p.2.2 < 0)) E (cond (decide (p.2.2 > 1000000)) E ih)) l
noncomputable def sumK (f : KWN → Int) (l : List KWN) : Int → Int := List.rec (motive := fun _ => Int → Int) (fun a => a) (fun p _ ih a => ih (IntKind.i64.wrap (a + f p))) l
/-- Whether one has not too much. -/
noncomputable def fitB (l : List KWN) (fa : Int) (p : KWN) : Bool :=
  decide (IntKind.i64.wrap (IntKind.i64.wrap (IntKind.i64.wrap (p.2.2 + 1) * 1000) * sumK (fun q => q.2.1) l 0) ≤ IntKind.i64.wrap (IntKind.i64.wrap (fa * p.2.1) * IntKind.i64.wrap (sumK (fun q => q.2.2) l 0 + 1)))
noncomputable def leastK (l : List KWN) : KWN → (ByteArray → Prop) → Prop :=
  List.rec (motive := fun _ => KWN → (ByteArray → Prop) → Prop) (fun best Q => Q best.1) (fun p _ ih best Q => cond (decide (IntKind.i64.wrap (IntKind.i64.wrap (p.2.2 + 1) * best.2.1) < IntKind.i64.wrap (IntKind.i64.wrap (best.2.2 + 1) * p.2.1))) (ih p Q) (ih best Q)) l
noncomputable def loopB (l : List KWN) (fa : Int) (ys : List KWN) (X : Prop) (Q : ByteArray → Prop) : Prop :=
  List.rec (motive := fun _ => Prop) X (fun p _ ih => cond (fitB l fa p) (Q p.1) ih) ys
def instKV (l : List KWN) : List (ByteArray × Int) := l.map fun p => (p.1, p.2.1)
def loadC (l : List KWN) : List Value := l.flatMap fun p => [.string p.1, .int .i64 p.2.2]
def errB (e : Int) : Value := .tuple ⟨[.string ⟨#[]⟩, .int .i64 e]⟩
def okB (a : ByteArray) : Value := .tuple ⟨[.string a, .int .i64 0]⟩
noncomputable def bdK (l : List KWN) (p0 : KWN) (rest : List KWN) (ys : List KWN) (k : ByteArray) (fa : Int) (Q : Value → Option Obj → Prop) : Prop :=
  cond ((plist ((instKV l).map instV)).all wtOk) (nsK l (Q (errB 1) (some (.cells ⟨loadC l⟩ 46 (0, 0))))
    (cond (decide (fa < 1000)) (Q (errB 1) (some (.cells ⟨loadC l⟩ 46 (0, 0)))) (cond (decide (fa > 1000000)) (Q (errB 1) (some (.cells ⟨loadC l⟩ 46 (0, 0))))
      (cond (k.toList == ByteArray.toList ⟨#[]⟩) (Q (errB 5) (some (.cells ⟨loadC l⟩ 46 (0, 0)))) (cond (decide ((k.size : Int) > 40)) (Q (errB 5) (some (.cells ⟨loadC l⟩ 46 (0, 0))))
        (cond (Nat.ble k.size 1000 && toldB (instKV ys) k ((instKV l).map instV))
          (loopB l fa ys (leastK rest p0 fun a => Q (okB a) (some (.cells ⟨loadC l⟩ 46 (0, 0)))) fun a => Q (okB a) (some (.cells ⟨loadC l⟩ 46 (0, 0)))) False)))))) False
theorem bd1100_01 (k : ByteArray) (fa w1 w2 n1 n2 : Int) (Q : Value → Option Obj → Prop) : ffn Tryz.prog (SBd [(⟨#[105, 97]⟩, w1), (⟨#[105, 98]⟩, w2)]) [] 5000 [] Tryz.f16 [fz ⟨[.agg ⟨[.string ⟨#[105, 97]⟩, .int .i64 w1]⟩, .agg ⟨[.string ⟨#[105, 98]⟩, .int .i64 w2]⟩]⟩, .slice (some ⟨0, 0, none⟩) 2 2, .string k, .int .i64 fa] ⟨1, 1, [(0, .cells ⟨[.string ⟨#[105, 97]⟩, .int .i64 n1, .string ⟨#[105, 98]⟩, .int .i64 n2]⟩ 46)]⟩ (fun v h => Q v (h.get 0)) =
    bdK [(⟨#[105, 97]⟩, w1, n1), (⟨#[105, 98]⟩, w2, n2)] (⟨#[105, 97]⟩, w1, n1) [(⟨#[105, 98]⟩, w2, n2)] [(⟨#[105, 97]⟩, w1, n1), (⟨#[105, 98]⟩, w2, n2)] k fa Q := by kernel_rfl
theorem bd1100_10 (k : ByteArray) (fa w1 w2 n1 n2 : Int) (Q : Value → Option Obj → Prop) : ffn Tryz.prog (SBd [(⟨#[105, 98]⟩, w2), (⟨#[105, 97]⟩, w1)]) [] 5000 [] Tryz.f16 [fz ⟨[.agg ⟨[.string ⟨#[105, 97]⟩, .int .i64 w1]⟩, .agg ⟨[.string ⟨#[105, 98]⟩, .int .i64 w2]⟩]⟩, .slice (some ⟨0, 0, none⟩) 2 2, .string k, .int .i64 fa] ⟨1, 1, [(0, .cells ⟨[.string ⟨#[105, 97]⟩, .int .i64 n1, .string ⟨#[105, 98]⟩, .int .i64 n2]⟩ 46)]⟩ (fun v h => Q v (h.get 0)) =
    bdK [(⟨#[105, 97]⟩, w1, n1), (⟨#[105, 98]⟩, w2, n2)] (⟨#[105, 97]⟩, w1, n1) [(⟨#[105, 98]⟩, w2, n2)] [(⟨#[105, 98]⟩, w2, n2), (⟨#[105, 97]⟩, w1, n1)] k fa Q := by kernel_rfl
theorem bd1010_01 (k : ByteArray) (fa w1 w2 n1 n2 : Int) (Q : Value → Option Obj → Prop) : ffn Tryz.prog (SBd [(⟨#[105, 97]⟩, w1), (⟨#[105, 99]⟩, w2)]) [] 5000 [] Tryz.f16 [fz ⟨[.agg ⟨[.string ⟨#[105, 97]⟩, .int .i64 w1]⟩, .agg ⟨[.string ⟨#[105, 99]⟩, .int .i64 w2]⟩]⟩, .slice (some ⟨0, 0, none⟩) 2 2, .string k, .int .i64 fa] ⟨1, 1, [(0, .cells ⟨[.string ⟨#[105, 97]⟩, .int .i64 n1, .string ⟨#[105, 99]⟩, .int .i64 n2]⟩ 46)]⟩ (fun v h => Q v (h.get 0)) =
    bdK [(⟨#[105, 97]⟩, w1, n1), (⟨#[105, 99]⟩, w2, n2)] (⟨#[105, 97]⟩, w1, n1) [(⟨#[105, 99]⟩, w2, n2)] [(⟨#[105, 97]⟩, w1, n1), (⟨#[105, 99]⟩, w2, n2)] k fa Q := by kernel_rfl
theorem bd1010_10 (k : ByteArray) (fa w1 w2 n1 n2 : Int) (Q : Value → Option Obj → Prop) : ffn Tryz.prog (SBd [(⟨#[105, 99]⟩, w2), (⟨#[105, 97]⟩, w1)]) [] 5000 [] Tryz.f16 [fz ⟨[.agg ⟨[.string ⟨#[105, 97]⟩, .int .i64 w1]⟩, .agg ⟨[.string ⟨#[105, 99]⟩, .int .i64 w2]⟩]⟩, .slice (some ⟨0, 0, none⟩) 2 2, .string k, .int .i64 fa] ⟨1, 1, [(0, .cells ⟨[.string ⟨#[105, 97]⟩, .int .i64 n1, .string ⟨#[105, 99]⟩, .int .i64 n2]⟩ 46)]⟩ (fun v h => Q v (h.get 0)) =
    bdK [(⟨#[105, 97]⟩, w1, n1), (⟨#[105, 99]⟩, w2, n2)] (⟨#[105, 97]⟩, w1, n1) [(⟨#[105, 99]⟩, w2, n2)] [(⟨#[105, 99]⟩, w2, n2), (⟨#[105, 97]⟩, w1, n1)] k fa Q := by kernel_rfl
theorem bd1001_01 (k : ByteArray) (fa w1 w2 n1 n2 : Int) (Q : Value → Option Obj → Prop) : ffn Tryz.prog (SBd [(⟨#[105, 97]⟩, w1), (⟨#[105, 100]⟩, w2)]) [] 5000 [] Tryz.f16 [fz ⟨[.agg ⟨[.string ⟨#[105, 97]⟩, .int .i64 w1]⟩, .agg ⟨[.string ⟨#[105, 100]⟩, .int .i64 w2]⟩]⟩, .slice (some ⟨0, 0, none⟩) 2 2, .string k, .int .i64 fa] ⟨1, 1, [(0, .cells ⟨[.string ⟨#[105, 97]⟩, .int .i64 n1, .string ⟨#[105, 100]⟩, .int .i64 n2]⟩ 46)]⟩ (fun v h => Q v (h.get 0)) =
    bdK [(⟨#[105, 97]⟩, w1, n1), (⟨#[105, 100]⟩, w2, n2)] (⟨#[105, 97]⟩, w1, n1) [(⟨#[105, 100]⟩, w2, n2)] [(⟨#[105, 97]⟩, w1, n1), (⟨#[105, 100]⟩, w2, n2)] k fa Q := by kernel_rfl
theorem bd1001_10 (k : ByteArray) (fa w1 w2 n1 n2 : Int) (Q : Value → Option Obj → Prop) : ffn Tryz.prog (SBd [(⟨#[105, 100]⟩, w2), (⟨#[105, 97]⟩, w1)]) [] 5000 [] Tryz.f16 [fz ⟨[.agg ⟨[.string ⟨#[105, 97]⟩, .int .i64 w1]⟩, .agg ⟨[.string ⟨#[105, 100]⟩, .int .i64 w2]⟩]⟩, .slice (some ⟨0, 0, none⟩) 2 2, .string k, .int .i64 fa] ⟨1, 1, [(0, .cells ⟨[.string ⟨#[105, 97]⟩, .int .i64 n1, .string ⟨#[105, 100]⟩, .int .i64 n2]⟩ 46)]⟩ (fun v h => Q v (h.get 0)) =
    bdK [(⟨#[105, 97]⟩, w1, n1), (⟨#[105, 100]⟩, w2, n2)] (⟨#[105, 97]⟩, w1, n1) [(⟨#[105, 100]⟩, w2, n2)] [(⟨#[105, 100]⟩, w2, n2), (⟨#[105, 97]⟩, w1, n1)] k fa Q := by kernel_rfl
theorem bd1000_0 (k : ByteArray) (fa w1 n1 : Int) (Q : Value → Option Obj → Prop) : ffn Tryz.prog (SBd [(⟨#[105, 97]⟩, w1)]) [] 5000 [] Tryz.f16 [fz ⟨[.agg ⟨[.string ⟨#[105, 97]⟩, .int .i64 w1]⟩]⟩, .slice (some ⟨0, 0, none⟩) 1 1, .string k, .int .i64 fa] ⟨1, 1, [(0, .cells ⟨[.string ⟨#[105, 97]⟩, .int .i64 n1]⟩ 46)]⟩ (fun v h => Q v (h.get 0)) =
    bdK [(⟨#[105, 97]⟩, w1, n1)] (⟨#[105, 97]⟩, w1, n1) [] [(⟨#[105, 97]⟩, w1, n1)] k fa Q := by kernel_rfl
theorem bd0110_01 (k : ByteArray) (fa w1 w2 n1 n2 : Int) (Q : Value → Option Obj → Prop) : ffn Tryz.prog (SBd [(⟨#[105, 98]⟩, w1), (⟨#[105, 99]⟩, w2)]) [] 5000 [] Tryz.f16 [fz ⟨[.agg ⟨[.string ⟨#[105, 98]⟩, .int .i64 w1]⟩, .agg ⟨[.string ⟨#[105, 99]⟩, .int .i64 w2]⟩]⟩, .slice (some ⟨0, 0, none⟩) 2 2, .string k, .int .i64 fa] ⟨1, 1, [(0, .cells ⟨[.string ⟨#[105, 98]⟩, .int .i64 n1, .string ⟨#[105, 99]⟩, .int .i64 n2]⟩ 46)]⟩ (fun v h => Q v (h.get 0)) =
    bdK [(⟨#[105, 98]⟩, w1, n1), (⟨#[105, 99]⟩, w2, n2)] (⟨#[105, 98]⟩, w1, n1) [(⟨#[105, 99]⟩, w2, n2)] [(⟨#[105, 98]⟩, w1, n1), (⟨#[105, 99]⟩, w2, n2)] k fa Q := by kernel_rfl
theorem bd0110_10 (k : ByteArray) (fa w1 w2 n1 n2 : Int) (Q : Value → Option Obj → Prop) : ffn Tryz.prog (SBd [(⟨#[105, 99]⟩, w2), (⟨#[105, 98]⟩, w1)]) [] 5000 [] Tryz.f16 [fz ⟨[.agg ⟨[.string ⟨#[105, 98]⟩, .int .i64 w1]⟩, .agg ⟨[.string ⟨#[105, 99]⟩, .int .i64 w2]⟩]⟩, .slice (some ⟨0, 0, none⟩) 2 2, .string k, .int .i64 fa] ⟨1, 1, [(0, .cells ⟨[.string ⟨#[105, 98]⟩, .int .i64 n1, .string ⟨#[105, 99]⟩, .int .i64 n2]⟩ 46)]⟩ (fun v h => Q v (h.get 0)) =
    bdK [(⟨#[105, 98]⟩, w1, n1), (⟨#[105, 99]⟩, w2, n2)] (⟨#[105, 98]⟩, w1, n1) [(⟨#[105, 99]⟩, w2, n2)] [(⟨#[105, 99]⟩, w2, n2), (⟨#[105, 98]⟩, w1, n1)] k fa Q := by kernel_rfl
theorem bd0101_01 (k : ByteArray) (fa w1 w2 n1 n2 : Int) (Q : Value → Option Obj → Prop) : ffn Tryz.prog (SBd [(⟨#[105, 98]⟩, w1), (⟨#[105, 100]⟩, w2)]) [] 5000 [] Tryz.f16 [fz ⟨[.agg ⟨[.string ⟨#[105, 98]⟩, .int .i64 w1]⟩, .agg ⟨[.string ⟨#[105, 100]⟩, .int .i64 w2]⟩]⟩, .slice (some ⟨0, 0, none⟩) 2 2, .string k, .int .i64 fa] ⟨1, 1, [(0, .cells ⟨[.string ⟨#[105, 98]⟩, .int .i64 n1, .string ⟨#[105, 100]⟩, .int .i64 n2]⟩ 46)]⟩ (fun v h => Q v (h.get 0)) =
    bdK [(⟨#[105, 98]⟩, w1, n1), (⟨#[105, 100]⟩, w2, n2)] (⟨#[105, 98]⟩, w1, n1) [(⟨#[105, 100]⟩, w2, n2)] [(⟨#[105, 98]⟩, w1, n1), (⟨#[105, 100]⟩, w2, n2)] k fa Q := by kernel_rfl
theorem bd0101_10 (k : ByteArray) (fa w1 w2 n1 n2 : Int) (Q : Value → Option Obj → Prop) : ffn Tryz.prog (SBd [(⟨#[105, 100]⟩, w2), (⟨#[105, 98]⟩, w1)]) [] 5000 [] Tryz.f16 [fz ⟨[.agg ⟨[.string ⟨#[105, 98]⟩, .int .i64 w1]⟩, .agg ⟨[.string ⟨#[105, 100]⟩, .int .i64 w2]⟩]⟩, .slice (some ⟨0, 0, none⟩) 2 2, .string k, .int .i64 fa] ⟨1, 1, [(0, .cells ⟨[.string ⟨#[105, 98]⟩, .int .i64 n1, .string ⟨#[105, 100]⟩, .int .i64 n2]⟩ 46)]⟩ (fun v h => Q v (h.get 0)) =
    bdK [(⟨#[105, 98]⟩, w1, n1), (⟨#[105, 100]⟩, w2, n2)] (⟨#[105, 98]⟩, w1, n1) [(⟨#[105, 100]⟩, w2, n2)] [(⟨#[105, 100]⟩, w2, n2), (⟨#[105, 98]⟩, w1, n1)] k fa Q := by kernel_rfl
theorem bd0100_0 (k : ByteArray) (fa w1 n1 : Int) (Q : Value → Option Obj → Prop) : ffn Tryz.prog (SBd [(⟨#[105, 98]⟩, w1)]) [] 5000 [] Tryz.f16 [fz ⟨[.agg ⟨[.string ⟨#[105, 98]⟩, .int .i64 w1]⟩]⟩, .slice (some ⟨0, 0, none⟩) 1 1, .string k, .int .i64 fa] ⟨1, 1, [(0, .cells ⟨[.string ⟨#[105, 98]⟩, .int .i64 n1]⟩ 46)]⟩ (fun v h => Q v (h.get 0)) =
    bdK [(⟨#[105, 98]⟩, w1, n1)] (⟨#[105, 98]⟩, w1, n1) [] [(⟨#[105, 98]⟩, w1, n1)] k fa Q := by kernel_rfl
theorem bd0011_01 (k : ByteArray) (fa w1 w2 n1 n2 : Int) (Q : Value → Option Obj → Prop) : ffn Tryz.prog (SBd [(⟨#[105, 99]⟩, w1), (⟨#[105, 100]⟩, w2)]) [] 5000 [] Tryz.f16 [fz ⟨[.agg ⟨[.string ⟨#[105, 99]⟩, .int .i64 w1]⟩, .agg ⟨[.string ⟨#[105, 100]⟩, .int .i64 w2]⟩]⟩, .slice (some ⟨0, 0, none⟩) 2 2, .string k, .int .i64 fa] ⟨1, 1, [(0, .cells ⟨[.string ⟨#[105, 99]⟩, .int .i64 n1, .string ⟨#[105, 100]⟩, .int .i64 n2]⟩ 46)]⟩ (fun v h => Q v (h.get 0)) =
    bdK [(⟨#[105, 99]⟩, w1, n1), (⟨#[105, 100]⟩, w2, n2)] (⟨#[105, 99]⟩, w1, n1) [(⟨#[105, 100]⟩, w2, n2)] [(⟨#[105, 99]⟩, w1, n1), (⟨#[105, 100]⟩, w2, n2)] k fa Q := by kernel_rfl
theorem bd0011_10 (k : ByteArray) (fa w1 w2 n1 n2 : Int) (Q : Value → Option Obj → Prop) : ffn Tryz.prog (SBd [(⟨#[105, 100]⟩, w2), (⟨#[105, 99]⟩, w1)]) [] 5000 [] Tryz.f16 [fz ⟨[.agg ⟨[.string ⟨#[105, 99]⟩, .int .i64 w1]⟩, .agg ⟨[.string ⟨#[105, 100]⟩, .int .i64 w2]⟩]⟩, .slice (some ⟨0, 0, none⟩) 2 2, .string k, .int .i64 fa] ⟨1, 1, [(0, .cells ⟨[.string ⟨#[105, 99]⟩, .int .i64 n1, .string ⟨#[105, 100]⟩, .int .i64 n2]⟩ 46)]⟩ (fun v h => Q v (h.get 0)) =
    bdK [(⟨#[105, 99]⟩, w1, n1), (⟨#[105, 100]⟩, w2, n2)] (⟨#[105, 99]⟩, w1, n1) [(⟨#[105, 100]⟩, w2, n2)] [(⟨#[105, 100]⟩, w2, n2), (⟨#[105, 99]⟩, w1, n1)] k fa Q := by kernel_rfl
theorem bd0010_0 (k : ByteArray) (fa w1 n1 : Int) (Q : Value → Option Obj → Prop) : ffn Tryz.prog (SBd [(⟨#[105, 99]⟩, w1)]) [] 5000 [] Tryz.f16 [fz ⟨[.agg ⟨[.string ⟨#[105, 99]⟩, .int .i64 w1]⟩]⟩, .slice (some ⟨0, 0, none⟩) 1 1, .string k, .int .i64 fa] ⟨1, 1, [(0, .cells ⟨[.string ⟨#[105, 99]⟩, .int .i64 n1]⟩ 46)]⟩ (fun v h => Q v (h.get 0)) =
    bdK [(⟨#[105, 99]⟩, w1, n1)] (⟨#[105, 99]⟩, w1, n1) [] [(⟨#[105, 99]⟩, w1, n1)] k fa Q := by kernel_rfl
theorem bd0001_0 (k : ByteArray) (fa w1 n1 : Int) (Q : Value → Option Obj → Prop) : ffn Tryz.prog (SBd [(⟨#[105, 100]⟩, w1)]) [] 5000 [] Tryz.f16 [fz ⟨[.agg ⟨[.string ⟨#[105, 100]⟩, .int .i64 w1]⟩]⟩, .slice (some ⟨0, 0, none⟩) 1 1, .string k, .int .i64 fa] ⟨1, 1, [(0, .cells ⟨[.string ⟨#[105, 100]⟩, .int .i64 n1]⟩ 46)]⟩ (fun v h => Q v (h.get 0)) =
    bdK [(⟨#[105, 100]⟩, w1, n1)] (⟨#[105, 100]⟩, w1, n1) [] [(⟨#[105, 100]⟩, w1, n1)] k fa Q := by kernel_rfl
end Go.Proofs.YtbkccelgffopcaaGreatDoor
