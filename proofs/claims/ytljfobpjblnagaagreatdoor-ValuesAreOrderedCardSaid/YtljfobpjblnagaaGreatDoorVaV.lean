/-
  Values as texts: quote on the drawn words; writer.value: heads and rounds.
-/
import Derived.Test.YtljfobpjblnagaaGreatDoorVaU
namespace Go.Proofs.YtljfobpjblnagaaGreatDoor
open Go.Ev Go.RowKit

/-! quote -/
noncomputable def SQz : SC := ⟨idn, fun _ _ _ => none, false, false⟩
theorem someQT : Tryz.f53.body.isSome = true := by kernel_rfl
theorem qt_run0 : ffn Tryz.prog SQz [] 9000 [] Tryz.f53 [.string (bl [])] h0 (fun v _ => v = .string (bl (ValLaw.qt []))) = ((.string (bl (ValLaw.qt [])) : Value) = .string (bl (ValLaw.qt []))) := by kernel_rfl
theorem qt_run1 : ffn Tryz.prog SQz [] 9000 [] Tryz.f53 [.string (bl [97])] h0 (fun v _ => v = .string (bl (ValLaw.qt [97]))) = ((.string (bl (ValLaw.qt [97])) : Value) = .string (bl (ValLaw.qt [97]))) := by kernel_rfl
theorem qt_run2 : ffn Tryz.prog SQz [] 9000 [] Tryz.f53 [.string (bl [98])] h0 (fun v _ => v = .string (bl (ValLaw.qt [98]))) = ((.string (bl (ValLaw.qt [98])) : Value) = .string (bl (ValLaw.qt [98]))) := by kernel_rfl
theorem qt_run3 : ffn Tryz.prog SQz [] 9000 [] Tryz.f53 [.string (bl [97, 32, 98])] h0 (fun v _ => v = .string (bl (ValLaw.qt [97, 32, 98]))) = ((.string (bl (ValLaw.qt [97, 32, 98])) : Value) = .string (bl (ValLaw.qt [97, 32, 98]))) := by kernel_rfl
theorem qt_run4 : ffn Tryz.prog SQz [] 9000 [] Tryz.f53 [.string (bl [120, 34, 121, 92, 122])] h0 (fun v _ => v = .string (bl (ValLaw.qt [120, 34, 121, 92, 122]))) = ((.string (bl (ValLaw.qt [120, 34, 121, 92, 122])) : Value) = .string (bl (ValLaw.qt [120, 34, 121, 92, 122]))) := by kernel_rfl
theorem qt_run5 : ffn Tryz.prog SQz [] 9000 [] Tryz.f53 [.string (bl [195, 169, 10, 9])] h0 (fun v _ => v = .string (bl (ValLaw.qt [195, 169, 10, 9]))) = ((.string (bl (ValLaw.qt [195, 169, 10, 9])) : Value) = .string (bl (ValLaw.qt [195, 169, 10, 9]))) := by kernel_rfl
theorem qt_run6 : ffn Tryz.prog SQz [] 9000 [] Tryz.f53 [.string (bl [1, 127])] h0 (fun v _ => v = .string (bl (ValLaw.qt [1, 127]))) = ((.string (bl (ValLaw.qt [1, 127])) : Value) = .string (bl (ValLaw.qt [1, 127]))) := by kernel_rfl
theorem qt_run7 : ffn Tryz.prog SQz [] 9000 [] Tryz.f53 [.string (bl [49, 50])] h0 (fun v _ => v = .string (bl (ValLaw.qt [49, 50]))) = ((.string (bl (ValLaw.qt [49, 50])) : Value) = .string (bl (ValLaw.qt [49, 50]))) := by kernel_rfl
theorem qt_run8 : ffn Tryz.prog SQz [] 9000 [] Tryz.f53 [.string (bl [45, 51])] h0 (fun v _ => v = .string (bl (ValLaw.qt [45, 51]))) = ((.string (bl (ValLaw.qt [45, 51])) : Value) = .string (bl (ValLaw.qt [45, 51]))) := by kernel_rfl
theorem qt_run9 : ffn Tryz.prog SQz [] 9000 [] Tryz.f53 [.string (bl [65, 98, 44, 99, 68])] h0 (fun v _ => v = .string (bl (ValLaw.qt [65, 98, 44, 99, 68]))) = ((.string (bl (ValLaw.qt [65, 98, 44, 99, 68])) : Value) = .string (bl (ValLaw.qt [65, 98, 44, 99, 68]))) := by kernel_rfl
theorem qt_run10 : ffn Tryz.prog SQz [] 9000 [] Tryz.f53 [.string (bl [99, 32, 100])] h0 (fun v _ => v = .string (bl (ValLaw.qt [99, 32, 100]))) = ((.string (bl (ValLaw.qt [99, 32, 100])) : Value) = .string (bl (ValLaw.qt [99, 32, 100]))) := by kernel_rfl
theorem qt_run11 : ffn Tryz.prog SQz [] 9000 [] Tryz.f53 [.string (bl [110])] h0 (fun v _ => v = .string (bl (ValLaw.qt [110]))) = ((.string (bl (ValLaw.qt [110])) : Value) = .string (bl (ValLaw.qt [110]))) := by kernel_rfl
theorem qt_run12 : ffn Tryz.prog SQz [] 9000 [] Tryz.f53 [.string (bl [115])] h0 (fun v _ => v = .string (bl (ValLaw.qt [115]))) = ((.string (bl (ValLaw.qt [115])) : Value) = .string (bl (ValLaw.qt [115]))) := by kernel_rfl
theorem qt_run13 : ffn Tryz.prog SQz [] 9000 [] Tryz.f53 [.string (bl [122])] h0 (fun v _ => v = .string (bl (ValLaw.qt [122]))) = ((.string (bl (ValLaw.qt [122])) : Value) = .string (bl (ValLaw.qt [122]))) := by kernel_rfl
theorem qt_all : ∀ w ∈ ValLaw.wordsU ++ ValLaw.namesU, FnOK 0 Tryz.prog 53 ⟨[.string (bl w)]⟩ h0 (fun v _ => v = .string (bl (ValLaw.qt w))) := by
  intro w hw
  have hw : w ∈ ([[], [97], [98], [97, 32, 98], [120, 34, 121, 92, 122], [195, 169, 10, 9], [1, 127], [49, 50], [45, 51], [65, 98, 44, 99, 68], [99, 32, 100], [110], [115], [122]] : List (List UInt8)) := by
    have key : ∀ w ∈ ValLaw.wordsU ++ ValLaw.namesU, w ∈ ([[], [97], [98], [97, 32, 98], [120, 34, 121, 92, 122], [195, 169, 10, 9], [1, 127], [49, 50], [45, 51], [65, 98, 44, 99, 68], [99, 32, 100], [110], [115], [122]] : List (List UInt8)) := by decide
    exact key w hw
  simp only [List.mem_cons, List.not_mem_nil, or_false] at hw
  rcases hw with rfl | rfl | rfl | rfl | rfl | rfl | rfl | rfl | rfl | rfl | rfl | rfl | rfl | rfl
  · exact FnOK.ftree none_ok.cfg mixed Tryz.func53 someQT qt_run0 rfl
  · exact FnOK.ftree none_ok.cfg mixed Tryz.func53 someQT qt_run1 rfl
  · exact FnOK.ftree none_ok.cfg mixed Tryz.func53 someQT qt_run2 rfl
  · exact FnOK.ftree none_ok.cfg mixed Tryz.func53 someQT qt_run3 rfl
  · exact FnOK.ftree none_ok.cfg mixed Tryz.func53 someQT qt_run4 rfl
  · exact FnOK.ftree none_ok.cfg mixed Tryz.func53 someQT qt_run5 rfl
  · exact FnOK.ftree none_ok.cfg mixed Tryz.func53 someQT qt_run6 rfl
  · exact FnOK.ftree none_ok.cfg mixed Tryz.func53 someQT qt_run7 rfl
  · exact FnOK.ftree none_ok.cfg mixed Tryz.func53 someQT qt_run8 rfl
  · exact FnOK.ftree none_ok.cfg mixed Tryz.func53 someQT qt_run9 rfl
  · exact FnOK.ftree none_ok.cfg mixed Tryz.func53 someQT qt_run10 rfl
  · exact FnOK.ftree none_ok.cfg mixed Tryz.func53 someQT qt_run11 rfl
  · exact FnOK.ftree none_ok.cfg mixed Tryz.func53 someQT qt_run12 rfl
  · exact FnOK.ftree none_ok.cfg mixed Tryz.func53 someQT qt_run13 rfl

/-! the writer -/
def byV (b : UInt8) : Value := .int .u8 (b.toNat : Int)
def wO (k n : Nat) : Obj := .cells ⟨[p0V, .slice (some ⟨k, 0, none⟩) n n]⟩ 88 (0, 0)
def wN : AH := ⟨1, 1, [(0, .cells ⟨[.pointer none, .slice none 0 0]⟩ 88 (0, 0))]⟩
def wH (cs : List Value) (n : Nat) : AH := ⟨2, 2, [(0, wO 1 n), (1, .cells ⟨cs⟩ 5 (0, 0))]⟩
def wrN : Option Obj → Option (Value × Nat × Nat)
  | some (.cells ⟨[a, .slice (some ⟨_, 0, none⟩) n c]⟩ 88 (0, 0)) => some (a, n, c)
  | _ => none
def wrB : Option Obj → Nat
  | some (.cells ⟨[_, .slice (some ⟨k, 0, none⟩) _ _]⟩ _ _) => k
  | _ => 0
def wrS (cs : List Value) (j : Nat) (s : ByteArray) (K : List Value → Nat → Prop) : Prop :=
  bif Nat.ble (j + s.size) j then False else bif Nat.ble (j + s.size) 9223372036854775807 && Nat.ble ((j + s.size) * 1) 140737488355328 then
    bif Nat.ble (0 + j * 1) (Array.mk cs).size && true && (s.data.toList.map byV).all oneCell then K (List.take (j * 1) (List.drop 0 (Array.mk cs).toList) ++ s.data.toList.map byV) (j + s.size) else False else False
def wr0 (s : ByteArray) (K : List Value → Nat → Prop) : Prop :=
  bif Nat.ble (0 + s.size) 0 then False else bif Nat.ble (0 + s.size) 9223372036854775807 && Nat.ble ((0 + s.size) * 1) 140737488355328 then K (s.data.toList.map byV) s.size else False
noncomputable def spQt (x : Value) (q : ByteArray) (f : FuncId) (args : Array Value) (h : AH) : Option (Bool × Value × AH) :=
  cond (Nat.beq f 53) (match args with
    | ⟨[y]⟩ => some (eqV y x, .string q, h)
    | _ => none) none
noncomputable def spIt (x : Value) (q : ByteArray) (f : FuncId) (args : Array Value) (h : AH) : Option (Bool × Value × AH) :=
  cond (Nat.beq f 52) (match args with
    | ⟨[y]⟩ => some (eqV y x, .string q, h)
    | _ => none) none
noncomputable def SQt (x : Value) (q : ByteArray) : SC := ⟨idn, spQt x q, true, true⟩
noncomputable def SIt (x : Value) (q : ByteArray) : SC := ⟨idn, spIt x q, true, true⟩
/-- A value that is written, told beforehand. -/
noncomputable def spWv (ok : Bool) (x : Value) (t : List Value) (f : FuncId) (args : Array Value) (h : AH) : Option (Bool × Value × AH) :=
  cond (Nat.beq f 31) (match args with
    | ⟨[.pointer (some ⟨b, 0, none⟩), y]⟩ => match h.get b with
      | some (.cells ⟨[.pointer (some ⟨b2, 0, none⟩), .slice (some ⟨c, 0, none⟩) n m]⟩ t1 (0, 0)) => match h.get c with
        | some (.cells ⟨cs⟩ t2 (0, 0)) => some (ok && eqV y x && Nat.beq m n && (Nat.beq b2 b && Nat.beq t1 88 && Nat.beq t2 5 && !Nat.beq b c && Nat.blt b h.next && Nat.blt c h.next) && Nat.beq cs.length n && Nat.ble (n + t.length) 200000 && cs.all p1 && t.all p1, .tuple ⟨[]⟩,
          ((h.del c).set b (.cells ⟨[.pointer (some ⟨b, 0, none⟩), .slice (some ⟨h.next, 0, none⟩) (n + t.length) (n + t.length)]⟩ 88 (0, 0))).push (.cells ⟨cs ++ t⟩ 5 (0, 0)))
        | _ => none
      | _ => none
    | _ => none) none
noncomputable def wvC (ok : Bool) (y x : Value) (j : Nat) (cs t : List Value) : Bool := ok && eqV y x && Nat.beq j j && true && Nat.beq cs.length j && Nat.ble (j + t.length) 200000 && cs.all p1 && t.all p1
noncomputable def SWv (ok : Bool) (x : Value) (t : List Value) : SC := ⟨idn, spWv ok x t, true, true⟩
noncomputable def SWq (ok : Bool) (x : Value) (t : List Value) (y : Value) (q : ByteArray) : SC := ⟨idn, spOr (spQt y q) (spWv ok x t), true, true⟩
theorem wv_n0  (QQ : Value → Option (Value × Nat × Nat) → Option Obj → Prop) : tfn Tryz.prog SP0 [] noHooks 1500 [] Tryz.f31 [p0V, vV 0 false 0 ⟨#[]⟩ [] []] (wN) (fun v h => QQ v (wrN (h.get 0)) (h.get (wrB (h.get 0)))) =
    (wr0 ⟨#[110, 117, 108, 108]⟩ fun cs j => QQ (.tuple ⟨[]⟩) (some (p0V, j, j)) (some (.cells ⟨cs⟩ 5 (0, 0)))) := by kernel_rfl
theorem wv_n1 (f : Bool) (QQ : Value → Option (Value × Nat × Nat) → Option Obj → Prop) : tfn Tryz.prog SP0 [] noHooks 1500 [] Tryz.f31 [p0V, vV 1 f 0 ⟨#[]⟩ [] []] (wN) (fun v h => QQ v (wrN (h.get 0)) (h.get (wrB (h.get 0)))) =
    (bif f then wr0 ⟨#[116, 114, 117, 101]⟩ fun cs j => QQ (.tuple ⟨[]⟩) (some (p0V, j, j)) (some (.cells ⟨cs⟩ 5 (0, 0))) else wr0 ⟨#[102, 97, 108, 115, 101]⟩ fun cs j => QQ (.tuple ⟨[]⟩) (some (p0V, j, j)) (some (.cells ⟨cs⟩ 5 (0, 0)))) := by kernel_rfl
theorem wv_n2 (n : Int) (q : ByteArray) (QQ : Value → Option (Value × Nat × Nat) → Option Obj → Prop) : tfn Tryz.prog (SIt (.int .i64 n) q) [] noHooks 1500 [] Tryz.f31 [p0V, vV 2 false n ⟨#[]⟩ [] []] (wN) (fun v h => QQ v (wrN (h.get 0)) (h.get (wrB (h.get 0)))) =
    (bif eqV (.int .i64 n) (.int .i64 n) then wr0 q fun cs j => QQ (.tuple ⟨[]⟩) (some (p0V, j, j)) (some (.cells ⟨cs⟩ 5 (0, 0))) else False) := by kernel_rfl
theorem wv_n3 (s q : ByteArray) (QQ : Value → Option (Value × Nat × Nat) → Option Obj → Prop) : tfn Tryz.prog (SQt (.string s) q) [] noHooks 1500 [] Tryz.f31 [p0V, vV 3 false 0 s [] []] (wN) (fun v h => QQ v (wrN (h.get 0)) (h.get (wrB (h.get 0)))) =
    (bif eqV (.string s) (.string s) then wr0 q fun cs j => QQ (.tuple ⟨[]⟩) (some (p0V, j, j)) (some (.cells ⟨cs⟩ 5 (0, 0))) else False) := by kernel_rfl
theorem wv_n4 (xs : List Value) (C : List Value → AH → Prop) (cs2 : List Value) (j2 : Nat) (QQ : Value → Option (Value × Nat × Nat) → Option Obj → Prop) : tfn Tryz.prog SP0 [] (hook1 25 (hookLS 1 111 [0, 90, 91, 92] [1] [0] (fun vals h K => C vals h ∧ K (.exit 3) [p0V] (wH cs2 j2)))) 1500 [] Tryz.f31 [p0V, vV 4 false 0 ⟨#[]⟩ xs []] (wN) (fun v h => QQ v (wrN (h.get 0)) (h.get (wrB (h.get 0)))) =
    (wr0 ⟨#[91]⟩ fun cs j => NoNames (.cells ⟨cs⟩ 5 (0, 0)) ∧ C [p0V, fz ⟨xs⟩, .int .i64 ((Array.mk xs).size : Int), .int .i64 0] (wH cs j) ∧ wrS cs2 j2 ⟨#[93]⟩ fun cs j => QQ (.tuple ⟨[]⟩) (some (p0V, j, j)) (some (.cells ⟨cs⟩ 5 (0, 0)))) := by kernel_rfl
theorem wv_n5 (ys : List Value) (C : List Value → AH → Prop) (cs2 : List Value) (j2 : Nat) (QQ : Value → Option (Value × Nat × Nat) → Option Obj → Prop) : tfn Tryz.prog SP0 [] (hook1 5 (hookLS 1 111 [0, 17, 18, 19] [1] [0] (fun vals h K => C vals h ∧ K (.exit 1) [p0V] (wH cs2 j2)))) 1500 [] Tryz.f31 [p0V, vV 5 false 0 ⟨#[]⟩ [] ys] (wN) (fun v h => QQ v (wrN (h.get 0)) (h.get (wrB (h.get 0)))) =
    (wr0 ⟨#[123]⟩ fun cs j => NoNames (.cells ⟨cs⟩ 5 (0, 0)) ∧ C [p0V, fz ⟨ys⟩, .int .i64 ((Array.mk ys).size : Int), .int .i64 0] (wH cs j) ∧ wrS cs2 j2 ⟨#[125]⟩ fun cs j => QQ (.tuple ⟨[]⟩) (some (p0V, j, j)) (some (.cells ⟨cs⟩ 5 (0, 0)))) := by kernel_rfl
theorem wv_b0  (cs : List Value) (j : Nat) (QQ : Value → Option (Value × Nat × Nat) → Option Obj → Prop) : tfn Tryz.prog SP0 [] noHooks 1500 [] Tryz.f31 [p0V, vV 0 false 0 ⟨#[]⟩ [] []] (wH cs j) (fun v h => QQ v (wrN (h.get 0)) (h.get (wrB (h.get 0)))) =
    (bif decide ((j : Int) > 200000) then QQ (.tuple ⟨[]⟩) (some (p0V, j, j)) (some (.cells ⟨cs⟩ 5 (0, 0))) else wrS cs j ⟨#[110, 117, 108, 108]⟩ fun cs j => QQ (.tuple ⟨[]⟩) (some (p0V, j, j)) (some (.cells ⟨cs⟩ 5 (0, 0)))) := by kernel_rfl
theorem wv_b1 (f : Bool) (cs : List Value) (j : Nat) (QQ : Value → Option (Value × Nat × Nat) → Option Obj → Prop) : tfn Tryz.prog SP0 [] noHooks 1500 [] Tryz.f31 [p0V, vV 1 f 0 ⟨#[]⟩ [] []] (wH cs j) (fun v h => QQ v (wrN (h.get 0)) (h.get (wrB (h.get 0)))) =
    (bif decide ((j : Int) > 200000) then QQ (.tuple ⟨[]⟩) (some (p0V, j, j)) (some (.cells ⟨cs⟩ 5 (0, 0))) else bif f then wrS cs j ⟨#[116, 114, 117, 101]⟩ fun cs j => QQ (.tuple ⟨[]⟩) (some (p0V, j, j)) (some (.cells ⟨cs⟩ 5 (0, 0))) else wrS cs j ⟨#[102, 97, 108, 115, 101]⟩ fun cs j => QQ (.tuple ⟨[]⟩) (some (p0V, j, j)) (some (.cells ⟨cs⟩ 5 (0, 0)))) := by kernel_rfl
theorem wv_b2 (n : Int) (q : ByteArray) (cs : List Value) (j : Nat) (QQ : Value → Option (Value × Nat × Nat) → Option Obj → Prop) : tfn Tryz.prog (SIt (.int .i64 n) q) [] noHooks 1500 [] Tryz.f31 [p0V, vV 2 false n ⟨#[]⟩ [] []] (wH cs j) (fun v h => QQ v (wrN (h.get 0)) (h.get (wrB (h.get 0)))) =
    (bif decide ((j : Int) > 200000) then QQ (.tuple ⟨[]⟩) (some (p0V, j, j)) (some (.cells ⟨cs⟩ 5 (0, 0))) else bif eqV (.int .i64 n) (.int .i64 n) then wrS cs j q fun cs j => QQ (.tuple ⟨[]⟩) (some (p0V, j, j)) (some (.cells ⟨cs⟩ 5 (0, 0))) else False) := by kernel_rfl
theorem wv_b3 (s q : ByteArray) (cs : List Value) (j : Nat) (QQ : Value → Option (Value × Nat × Nat) → Option Obj → Prop) : tfn Tryz.prog (SQt (.string s) q) [] noHooks 1500 [] Tryz.f31 [p0V, vV 3 false 0 s [] []] (wH cs j) (fun v h => QQ v (wrN (h.get 0)) (h.get (wrB (h.get 0)))) =
    (bif decide ((j : Int) > 200000) then QQ (.tuple ⟨[]⟩) (some (p0V, j, j)) (some (.cells ⟨cs⟩ 5 (0, 0))) else bif eqV (.string s) (.string s) then wrS cs j q fun cs j => QQ (.tuple ⟨[]⟩) (some (p0V, j, j)) (some (.cells ⟨cs⟩ 5 (0, 0))) else False) := by kernel_rfl
theorem wv_b4 (xs : List Value) (C : List Value → AH → Prop) (cs2 : List Value) (j2 : Nat) (cs : List Value) (j : Nat) (QQ : Value → Option (Value × Nat × Nat) → Option Obj → Prop) : tfn Tryz.prog SP0 [] (hook1 25 (hookLS 1 111 [0, 90, 91, 92] [1] [0] (fun vals h K => C vals h ∧ K (.exit 3) [p0V] (wH cs2 j2)))) 1500 [] Tryz.f31 [p0V, vV 4 false 0 ⟨#[]⟩ xs []] (wH cs j) (fun v h => QQ v (wrN (h.get 0)) (h.get (wrB (h.get 0)))) =
    (bif decide ((j : Int) > 200000) then QQ (.tuple ⟨[]⟩) (some (p0V, j, j)) (some (.cells ⟨cs⟩ 5 (0, 0))) else wrS cs j ⟨#[91]⟩ fun cs j => NoNames (.cells ⟨cs⟩ 5 (0, 0)) ∧ C [p0V, fz ⟨xs⟩, .int .i64 ((Array.mk xs).size : Int), .int .i64 0] (wH cs j) ∧ wrS cs2 j2 ⟨#[93]⟩ fun cs j => QQ (.tuple ⟨[]⟩) (some (p0V, j, j)) (some (.cells ⟨cs⟩ 5 (0, 0)))) := by kernel_rfl
theorem wv_b5 (ys : List Value) (C : List Value → AH → Prop) (cs2 : List Value) (j2 : Nat) (cs : List Value) (j : Nat) (QQ : Value → Option (Value × Nat × Nat) → Option Obj → Prop) : tfn Tryz.prog SP0 [] (hook1 5 (hookLS 1 111 [0, 17, 18, 19] [1] [0] (fun vals h K => C vals h ∧ K (.exit 1) [p0V] (wH cs2 j2)))) 1500 [] Tryz.f31 [p0V, vV 5 false 0 ⟨#[]⟩ [] ys] (wH cs j) (fun v h => QQ v (wrN (h.get 0)) (h.get (wrB (h.get 0)))) =
    (bif decide ((j : Int) > 200000) then QQ (.tuple ⟨[]⟩) (some (p0V, j, j)) (some (.cells ⟨cs⟩ 5 (0, 0))) else wrS cs j ⟨#[123]⟩ fun cs j => NoNames (.cells ⟨cs⟩ 5 (0, 0)) ∧ C [p0V, fz ⟨ys⟩, .int .i64 ((Array.mk ys).size : Int), .int .i64 0] (wH cs j) ∧ wrS cs2 j2 ⟨#[125]⟩ fun cs j => QQ (.tuple ⟨[]⟩) (some (p0V, j, j)) (some (.cells ⟨cs⟩ 5 (0, 0)))) := by kernel_rfl
theorem wl_rd1 (ok : Bool) (x : Value) (t : List Value) (n i : Int) (xs cs : List Value) (j : Nat) (B : List Value → AH → Prop) (Q : AExit → List Value → AH → Prop) :
    once 1 Tryz.prog (SWv ok x t) [] noHooks 900 111 [0, 90, 91, 92] [1] [0] [1] (oneLoop (codeOf Tryz.f31) 25) [p0V, fz ⟨xs⟩, .int .i64 n, .int .i64 i] (wH cs j) B Q =
      bif decide (i < n) then bif decide (0 ≤ i) && decide (i < ((Array.mk xs).size : Int)) && Nat.beq (e6 (elV xs i)).cells.size 6 then elV xs i = e6 (elV xs i) ∧
        (bif decide (i > 0) then wrS cs j ⟨#[44]⟩ fun cs j => bif wvC ok (e6 (elV xs i)) x j cs t then NoNames (.cells ⟨cs ++ t⟩ 5 (0, 0)) ∧ B [p0V, fz ⟨xs⟩, .int .i64 n, .int .i64 (IntKind.i64.wrap (i + 1))] (wH (cs ++ t) (j + t.length)) else False
          else bif wvC ok (e6 (elV xs i)) x j cs t then NoNames (.cells ⟨cs ++ t⟩ 5 (0, 0)) ∧ B [p0V, fz ⟨xs⟩, .int .i64 n, .int .i64 (IntKind.i64.wrap (i + 1))] (wH (cs ++ t) (j + t.length)) else False) else False
      else NoNames (.cells ⟨cs⟩ 5 (0, 0)) ∧ Q (.exit 3) [p0V] (wH cs j) := by kernel_rfl
theorem wm_rd1 (ok : Bool) (x : Value) (t : List Value) (q : ByteArray) (n i : Int) (ys cs : List Value) (j : Nat) (B : List Value → AH → Prop) (Q : AExit → List Value → AH → Prop) :
    once 1 Tryz.prog (SWq ok x t (.string (elS ys i)) q) [] noHooks 900 111 [0, 17, 18, 19] [1] [0] [1] (oneLoop (codeOf Tryz.f31) 5) [p0V, fz ⟨ys⟩, .int .i64 n, .int .i64 i] (wH cs j) B Q =
      bif decide (i < n) then bif decide (0 ≤ i) && decide (i < ((Array.mk ys).size : Int)) && Nat.beq (e7 (elV ys i)).cells.size 7 then elV ys i = e7 (elV ys i) ∧
        (bif decide (i > 0) then wrS cs j ⟨#[44]⟩ fun cs j => bif eqV (.string (elS ys i)) (.string (elS ys i)) then wrS cs j q fun cs j => wrS cs j ⟨#[58]⟩ fun cs j => bif wvC ok (m6 (elV ys i)) x j cs t then NoNames (.cells ⟨cs ++ t⟩ 5 (0, 0)) ∧ B [p0V, fz ⟨ys⟩, .int .i64 n, .int .i64 (IntKind.i64.wrap (i + 1))] (wH (cs ++ t) (j + t.length)) else False else False
          else bif eqV (.string (elS ys i)) (.string (elS ys i)) then wrS cs j q fun cs j => wrS cs j ⟨#[58]⟩ fun cs j => bif wvC ok (m6 (elV ys i)) x j cs t then NoNames (.cells ⟨cs ++ t⟩ 5 (0, 0)) ∧ B [p0V, fz ⟨ys⟩, .int .i64 n, .int .i64 (IntKind.i64.wrap (i + 1))] (wH (cs ++ t) (j + t.length)) else False else False) else False
      else NoNames (.cells ⟨cs⟩ 5 (0, 0)) ∧ Q (.exit 1) [p0V] (wH cs j) := by kernel_rfl
end Go.Proofs.YtljfobpjblnagaaGreatDoor
