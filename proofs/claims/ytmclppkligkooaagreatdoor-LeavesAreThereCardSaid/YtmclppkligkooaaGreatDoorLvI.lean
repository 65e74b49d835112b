/-
  Paths: plain, words, strict, readStep: equations over an unknown text.
-/
import Derived.Test.YtmclppkligkooaaGreatDoorLvH
namespace Go.Proofs.YtmclppkligkooaaGreatDoor
open Go.Ev Go.RowKit
set_option maxRecDepth 20000

def nd (c : Bool) (A : Prop) : Prop := bif c then A else False
def nf (c : Bool) (A : Prop) : Prop := bif c then False else A
theorem nd_mk {c : Bool} {A : Prop} (h : c = true) (hA : A) : nd c A := need_mk h hA
theorem nf_mk {c : Bool} {A : Prop} (h : c = false) (hA : A) : nf c A := pick_f h hA
def bt (T : ByteArray) (i : Int) : Int := ((T.data.toList.getD i.toNat 0).toNat : Int)
def bd (T : ByteArray) (i : Int) : Bool := decide (0 ≤ i) && decide (i < (T.size : Int))
def wp (a : Int) : Int := IntKind.i64.wrap (a + 1)
/-- A letter of the drawn names. -/
def wB (c : Int) : Bool := decide (c = 97) || decide (c = 98) || decide (c = 110) || decide (c = 115)
def okW (c : Int) : Bool := wB c || decide (c = 46) || decide (c = 91)
noncomputable def spWb (f : FuncId) (args : Array Value) (h : AH) : Option (Bool × Value × AH) :=
  cond (Nat.beq f 65) (match args with
    | ⟨[.int .u8 c]⟩ => some (okW c, .bool (wB c), h)
    | _ => none) none
noncomputable def spDg (f : FuncId) (args : Array Value) (h : AH) : Option (Bool × Value × AH) :=
  cond (Nat.beq f 66) (match args with
    | ⟨[.int .u8 c]⟩ => some (wB c, .bool false, h)
    | _ => none) none
noncomputable def SWD : SC := ⟨idn, spOr spWb spDg, true, true⟩
/-! plain -/
theorem somePL : Tryz.f41.body.isSome = true := by kernel_rfl
theorem plE (T : ByteArray) (a : Int) (Q : Value → Prop) : ffn Tryz.prog SWD [(0, true), (4, true), (8, true), (14, true), (15, false)] 900 [] Tryz.f41 [.string T, .int .i64 a] h0 (fun v _ => Q v) =
    nd (decide (a < (T.size : Int))) (nd (bd T (a)) (nd (okW (bt T (a))) (nd (wB (bt T (a))) (nd (a == a) (nd (bd T (a)) (nd (wB (bt T (a))) (nf (decide (wp a < (T.size : Int))) (Q (.int .i64 (wp a)))))))))) := by kernel_rfl
theorem plN (T : ByteArray) (a : Int) (Q : Value → Prop) : ffn Tryz.prog SWD [(0, true), (4, true), (8, true), (14, true), (15, true), (19, false)] 900 [] Tryz.f41 [.string T, .int .i64 a] h0 (fun v _ => Q v) =
    nd (decide (a < (T.size : Int))) (nd (bd T (a)) (nd (okW (bt T (a))) (nd (wB (bt T (a))) (nd (a == a) (nd (bd T (a)) (nd (wB (bt T (a))) (nd (decide (wp a < (T.size : Int))) (nd (bd T (wp a)) (nd (okW (bt T (wp a))) (nf (wB (bt T (wp a))) (Q (.int .i64 (wp a))))))))))))) := by kernel_rfl
/-! words -/
noncomputable def spEs (f : FuncId) (args : Array Value) (h : AH) : Option (Bool × Value × AH) :=
  cond (Nat.beq f 100) (match args with
    | ⟨[_, _]⟩ => some (false, .tuple ⟨[.int .i32 0, .int .i64 0]⟩, h)
    | _ => none) none
noncomputable def SWo : SC := ⟨idn, spEs, true, true⟩
def oW (cs : List Value) : AH := ⟨1, 1, [(0, .cells ⟨cs⟩ 5 (0, 0))]⟩
def sW (j : Nat) : Value := .slice (some ⟨0, 0, none⟩) j j
theorem someWD : Tryz.f67.body.isSome = true := by kernel_rfl
theorem oneWD3 : (loopAt (codeOf Tryz.f67) 3).length = 1 := by kernel_rfl
theorem wd_e (T : ByteArray) (a : Int) (Q : Value → Prop) : ffn Tryz.prog SWo [(0, true), (1, true)] 1900 [] Tryz.f67 [.string T, .int .i64 a] h0 (fun v _ => Q v) =
    nd (decide (wp a < (T.size : Int))) (nd (bd T (wp a)) (nd (bt T (wp a) == 34) (Q (.tuple ⟨[.string ⟨#[]⟩, .int .i64 (wp (wp a)), .bool true]⟩)))) := by kernel_rfl
theorem wd_h (T : ByteArray) (a : Int) (C : List Value → AH → Prop) (w : ByteArray) (e : Int) (Q : Value → Prop) : tfn Tryz.prog SWo [] (hook1 3 (hookLS 0 56 [0, 8, 7] [0] [4, 5, 6] (fun vals h K => C vals h ∧ K .ret [.string w, .int .i64 e, .bool true] h0))) 1900 [] Tryz.f67 [.string T, .int .i64 a] h0 (fun v _ => Q v) =
    (C [.string T, .int .i64 (wp a), nlV] h0 ∧ Q (.tuple ⟨[.string w, .int .i64 e, .bool true]⟩)) := by kernel_rfl
theorem wd_r0 (T : ByteArray) (i : Int) (B : List Value → AH → Prop) (Q : AExit → List Value → AH → Prop) : once 0 Tryz.prog SWo [(0, true), (1, false), (38, false), (1185, false)] noHooks 900 56 [0, 8, 7] [0] [4, 5, 6] [] (oneLoop (codeOf Tryz.f67) 3) [.string T, .int .i64 i, nlV] h0 B Q =
    nd (decide (i < (T.size : Int))) (nd (bd T i) (nf (bt T i == 34) (nf (decide (bt T i < 32)) (nf (bt T i == 92) (NoNames (.cells ⟨[.int .u8 (bt T i)]⟩ 5 (0, 0)) ∧ B [.string T, .int .i64 (wp i), sW 1] (oW [.int .u8 (bt T i)])))))) := by kernel_rfl
theorem wd_r1 (T : ByteArray) (i : Int) (B : List Value → AH → Prop) (Q : AExit → List Value → AH → Prop) : once 0 Tryz.prog SWo [(0, true), (1, false), (38, false), (1185, false)] noHooks 900 56 [0, 8, 7] [0] [4, 5, 6] [] (oneLoop (codeOf Tryz.f67) 3) [.string T, .int .i64 i, sW 1] (oW [.int .u8 99]) B Q =
    nd (decide (i < (T.size : Int))) (nd (bd T i) (nf (bt T i == 34) (nf (decide (bt T i < 32)) (nf (bt T i == 92) (NoNames (.cells ⟨[.int .u8 99, .int .u8 (bt T i)]⟩ 5 (0, 0)) ∧ B [.string T, .int .i64 (wp i), sW 2] (oW [.int .u8 99, .int .u8 (bt T i)])))))) := by kernel_rfl
theorem wd_r2 (T : ByteArray) (i : Int) (B : List Value → AH → Prop) (Q : AExit → List Value → AH → Prop) : once 0 Tryz.prog SWo [(0, true), (1, false), (38, false), (1185, false)] noHooks 900 56 [0, 8, 7] [0] [4, 5, 6] [] (oneLoop (codeOf Tryz.f67) 3) [.string T, .int .i64 i, sW 2] (oW [.int .u8 99, .int .u8 32]) B Q =
    nd (decide (i < (T.size : Int))) (nd (bd T i) (nf (bt T i == 34) (nf (decide (bt T i < 32)) (nf (bt T i == 92) (NoNames (.cells ⟨[.int .u8 99, .int .u8 32, .int .u8 (bt T i)]⟩ 5 (0, 0)) ∧ B [.string T, .int .i64 (wp i), sW 3] (oW [.int .u8 99, .int .u8 32, .int .u8 (bt T i)])))))) := by kernel_rfl
theorem wd_x (T : ByteArray) (i : Int) (B : List Value → AH → Prop) (Q : AExit → List Value → AH → Prop) : once 0 Tryz.prog SWo [(0, true), (1, true)] noHooks 900 56 [0, 8, 7] [0] [4, 5, 6] [] (oneLoop (codeOf Tryz.f67) 3) [.string T, .int .i64 i, sW 3] (oW [.int .u8 99, .int .u8 32, .int .u8 100]) B Q =
    nd (decide (i < (T.size : Int))) (nd (bd T i) (nd (bt T i == 34) (Q .ret [.string ⟨#[99, 32, 100]⟩, .int .i64 (wp i), .bool true] h0))) := by kernel_rfl
/-! strict -/
noncomputable def spWd (T : ByteArray) (a : Int) (w : ByteArray) (e : Int) (f : FuncId) (args : Array Value) (h : AH) : Option (Bool × Value × AH) :=
  cond (Nat.beq f 67) (match args with
    | ⟨[t, i]⟩ => some (eqV t (.string T) && eqV i (.int .i64 a), .tuple ⟨[.string w, .int .i64 e, .bool true]⟩, h)
    | _ => none) none
noncomputable def spQt (x : Value) (q : ByteArray) (f : FuncId) (args : Array Value) (h : AH) : Option (Bool × Value × AH) :=
  cond (Nat.beq f 40) (match args with
    | ⟨[y]⟩ => some (eqV y x, .string q, h)
    | _ => none) none
noncomputable def SSt (T : ByteArray) (a : Int) (w : ByteArray) (e : Int) (q : ByteArray) : SC := ⟨idn, spOr (spWd T a w e) (spQt (.string w) q), true, true⟩
def eqB (q r : ByteArray) : Bool := q.toList == r.toList
theorem eqB_self (q : ByteArray) : eqB q q = true := beq_self_eq_true q.toList
theorem someSR : Tryz.f42.body.isSome = true := by kernel_rfl
theorem sr_eq (T w q : ByteArray) (a e : Int) (Q : Value → Prop) : ffn Tryz.prog (SSt T a w e q) [(0, false), (215488, false)] 900 [] Tryz.f42 [.string T, .int .i64 a] h0 (fun v _ => Q v) =
    nf (decide (a ≥ (T.size : Int))) (nd (bd T a) (nf (bt T a != 34) (nd (eqV (.string T) (.string T) && eqV (.int .i64 a) (.int .i64 a)) (nd (eqV (.string w) (.string w)) (nd (decide (0 ≤ a) && decide (a ≤ e) && decide (e ≤ (T.size : Int))) (Q (.tuple ⟨[.string w, .int .i64 e, .bool (eqB q (T.extract a.toNat e.toNat))]⟩))))))) := by kernel_rfl
theorem sr_no' (T T2 w q : ByteArray) (a a2 e : Int) (Q : Value → Prop) : ffn Tryz.prog (SSt T2 a2 w e q) [(0, false), (215488, true)] 900 [] Tryz.f42 [.string T, .int .i64 a] h0 (fun v _ => Q v) =
    nf (decide (a ≥ (T.size : Int))) (nd (bd T a) (nd (bt T a != 34) (Q (.tuple ⟨[.string ⟨#[]⟩, .int .i64 0, .bool false]⟩)))) := by kernel_rfl
/-! readStep -/
noncomputable def spPl (T : ByteArray) (a e : Int) (f : FuncId) (args : Array Value) (h : AH) : Option (Bool × Value × AH) :=
  cond (Nat.beq f 41) (match args with
    | ⟨[t, i]⟩ => some (eqV t (.string T) && eqV i (.int .i64 a), .int .i64 e, h)
    | _ => none) none
noncomputable def spSr (T : ByteArray) (a : Int) (w : ByteArray) (e : Int) (ok : Bool) (f : FuncId) (args : Array Value) (h : AH) : Option (Bool × Value × AH) :=
  cond (Nat.beq f 42) (match args with
    | ⟨[t, i]⟩ => some (eqV t (.string T) && eqV i (.int .i64 a), .tuple ⟨[.string w, .int .i64 e, .bool ok]⟩, h)
    | _ => none) none
noncomputable def spIp (w : ByteArray) (f : FuncId) (args : Array Value) (h : AH) : Option (Bool × Value × AH) :=
  cond (Nat.beq f 39) (match args with
    | ⟨[t]⟩ => some (eqV t (.string w), .bool false, h)
    | _ => none) none
noncomputable def spIx (u : ByteArray) (k : Int) (f : FuncId) (args : Array Value) (h : AH) : Option (Bool × Value × AH) :=
  cond (Nat.beq f 43) (match args with
    | ⟨[t, c]⟩ => some (eqV t (.string u) && eqV c (.int .u8 93), .int .i64 k, h)
    | _ => none) none
noncomputable def spSm (d : ByteArray) (x : Int) (f : FuncId) (args : Array Value) (h : AH) : Option (Bool × Value × AH) :=
  cond (Nat.beq f 44) (match args with
    | ⟨[t]⟩ => some (eqV t (.string d), .tuple ⟨[.int .i64 x, .bool true]⟩, h)
    | _ => none) none
noncomputable def SR1 (T : ByteArray) (a e : Int) : SC := ⟨idn, spPl T a e, true, true⟩
noncomputable def SR2 (T : ByteArray) (a : Int) (w : ByteArray) (e : Int) : SC := ⟨idn, spOr (spSr T a w e true) (spIp w), true, true⟩
noncomputable def SR3 (T : ByteArray) (a : Int) (u d : ByteArray) (k x : Int) : SC := ⟨idn, spOr (spSr T a ⟨#[]⟩ 0 false) (spOr (spIx u k) (spSm d x)), true, true⟩
theorem someRS : Tryz.f23.body.isSome = true := by kernel_rfl
theorem rs_p (T : ByteArray) (a e : Int) (Q : Value → Prop) : ffn Tryz.prog (SR1 T (wp a) e) [(0, true)] 900 [] Tryz.f23 [.string T, .int .i64 a] h0 (fun v _ => Q v) =
    nd (bd T a) (nd (bt T a == 46) (nd (eqV (.string T) (.string T) && eqV (.int .i64 (wp a)) (.int .i64 (wp a))) (nd (decide (0 ≤ wp a) && decide (wp a ≤ e) && decide (e ≤ (T.size : Int)))
      (Q (.tuple ⟨[.agg ⟨[.bool true, .string (T.extract (wp a).toNat e.toNat), .int .i64 0]⟩, .int .i64 e, .bool (decide (e > wp a))]⟩))))) := by kernel_rfl
theorem rs_s (T : ByteArray) (a : Int) (w : ByteArray) (e : Int) (Q : Value → Prop) : ffn Tryz.prog (SR2 T (wp a) w e) [(0, false), (7, false), (229, true)] 900 [] Tryz.f23 [.string T, .int .i64 a] h0 (fun v _ => Q v) =
    nd (bd T a) (nf (bt T a == 46) (nd (bd T a) (nf (bt T a != 91) (nd (eqV (.string T) (.string T) && eqV (.int .i64 (wp a)) (.int .i64 (wp a))) (nd (eqV (.string w) (.string w)) (nd (decide (e < (T.size : Int))) (nd (bd T e)
      (Q (.tuple ⟨[.agg ⟨[.bool true, .string w, .int .i64 0]⟩, .int .i64 (wp e), .bool (bt T e == 93)]⟩))))))))) := by kernel_rfl
theorem rs_i (T : ByteArray) (a : Int) (u d : ByteArray) (k x : Int) (Q : Value → Prop) : ffn Tryz.prog (SR3 T (wp a) u d k x) [(0, false), (7, false), (6951, false)] 900 [] Tryz.f23 [.string T, .int .i64 a] h0 (fun v _ => Q v) =
    nd (bd T a) (nf (bt T a == 46) (nd (bd T a) (nf (bt T a != 91) (nd (eqV (.string T) (.string T) && eqV (.int .i64 (wp a)) (.int .i64 (wp a))) (nd (decide (0 ≤ a) && decide (a ≤ (T.size : Int)) && decide ((T.size : Int) ≤ (T.size : Int)))
      (nd (eqV (.string (T.extract a.toNat (T.size : Int).toNat)) (.string u) && eqV (.int .u8 93) (.int .u8 93)) (nf (decide (k < 0)) (nd (decide (0 ≤ wp a) && decide (wp a ≤ IntKind.i64.wrap (a + k)) && decide (IntKind.i64.wrap (a + k) ≤ (T.size : Int)))
        (nd (eqV (.string (T.extract (wp a).toNat (IntKind.i64.wrap (a + k)).toNat)) (.string d)) (Q (.tuple ⟨[.agg ⟨[.bool false, .string ⟨#[]⟩, .int .i64 x]⟩, .int .i64 (wp (IntKind.i64.wrap (a + k))), .bool (decide (x ≥ 0))]⟩))))))))))) := by kernel_rfl
end Go.Proofs.YtmclppkligkooaaGreatDoor
