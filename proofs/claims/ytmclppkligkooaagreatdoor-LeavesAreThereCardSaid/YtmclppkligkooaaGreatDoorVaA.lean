/-
  Values: how many there are in one, and how deep: the code's rounds.
-/
import Derived.Test.YtmclppkligkooaaGreatDoorBase
namespace Go.Proofs.YtmclppkligkooaaGreatDoor
open Go.Ev Go.RowKit

noncomputable def eqV (a b : Value) : Bool := @decide (a = b) (Classical.propDecidable _)
theorem eqV_eq {a b : Value} (h : eqV a b = true) : a = b := @of_decide_eq_true (a = b) (Classical.propDecidable _) h
theorem eqV_self (a : Value) : eqV a a = true := @decide_eq_true (a = a) (Classical.propDecidable _) rfl
def vV (k : Int) (f : Bool) (n : Int) (s : ByteArray) (xs ys : List Value) : Value := .agg ⟨[.int .i64 k, .bool f, .int .i64 n, .string s, fz ⟨xs⟩, fz ⟨ys⟩]⟩
def e6 (x : Value) : Value := .agg ⟨etaL [.int .i64, .bool, .int .i64, .str, .slice, .slice] 0 x⟩
def e7 (x : Value) : Value := .agg ⟨etaL [.str, .int .i64, .bool, .int .i64, .str, .slice, .slice] 0 x⟩
def m6 (x : Value) : Value := .agg ⟨etaL [.int .i64, .bool, .int .i64, .str, .slice, .slice] 1 x⟩
def elV (xs : List Value) (i : Int) : Value := (Array.mk xs).toList.getD i.toNat undef
def ctO (c : Int) : Obj := .cells ⟨[.int .i64 c]⟩ 96 (0, 0)
def cH (c : Int) : AH := ⟨1, 1, [(0, ctO c)]⟩
def bxO (bx : List Value) : Obj := .cells ⟨bx⟩ 29 (0, 0)
def lgH (c : Int) (bx : List Value) : AH := ⟨2, 2, [(0, ctO c), (1, bxO bx)]⟩
def lgH0 (c : Int) (bx : List Value) : AH := ⟨2, 0, [(1, bxO bx), (0, ctO c)]⟩
def lgJ (c : Int) : AH := ⟨1, 1, [(0, ctO c)]⟩
def p0V : Value := .pointer (some ⟨0, 0, none⟩)
def p1V : Value := .pointer (some ⟨1, 0, none⟩)
noncomputable def spLg (x : Value) (k m : Int) (f : FuncId) (args : Array Value) (h : AH) : Option (Bool × Value × AH) :=
  cond (Nat.beq f 29) (match args with
    | ⟨[.pointer (some ⟨b, 0, none⟩), y, .int .i64 d]⟩ => match h.get b with
      | some (.cells ⟨[.int .i64 c]⟩ t (0, 0)) => some (eqV y x && Nat.beq t 96 && decide (0 ≤ c) && decide (c + k ≤ 5000) && decide (0 ≤ d) && decide (d + m ≤ 50) && Nat.blt b h.next, .bool false, h.set b (.cells ⟨[.int .i64 (c + k)]⟩ 96 (0, 0)))
      | _ => none
    | _ => none) none
noncomputable def SLg (x : Value) (k m : Int) : SC := ⟨idn, spLg x k m, true, true⟩
noncomputable def SP0 : SC := ⟨idn, fun _ _ _ => none, true, true⟩
theorem SP0_ok : SP0.cfg.OK Tryz.prog := none_ok.cfg
theorem lg1 (x : Value) (k m n i c d : Int) (xs bx : List Value) (B : List Value → AH → Prop) (Q : AExit → List Value → AH → Prop) :
    once 1 Tryz.prog (SLg x k m) [] noHooks 600 54 [0, 2, 4, 28, 29, 30] [0, 1] [0, 2, 4, 6] [0, 1] (oneLoop (codeOf Tryz.f29) 5) [p0V, .int .i64 d, p1V, fz ⟨xs⟩, .int .i64 n, .int .i64 i] (lgH c bx) B Q =
      bif decide (i < n) then bif decide (0 ≤ i) && decide (i < ((Array.mk xs).size : Int)) && Nat.beq (e6 (elV xs i)).cells.size 6 then elV xs i = e6 (elV xs i) ∧
        (bif eqV (e6 (elV xs i)) x && Nat.beq 96 96 && decide (0 ≤ c) && decide (c + k ≤ 5000) && decide (0 ≤ IntKind.i64.wrap (d + 1)) && decide (IntKind.i64.wrap (d + 1) + m ≤ 50) && true then NoNames (ctO (c + k)) ∧ NoNames (bxO bx) ∧ B [p0V, .int .i64 d, p1V, fz ⟨xs⟩, .int .i64 n, .int .i64 (IntKind.i64.wrap (i + 1))] (lgH (c + k) bx) else False) else False
      else NoNames (ctO c) ∧ NoNames (bxO bx) ∧ Q (.exit 0) [p0V, .int .i64 d, p1V, anyV] (lgH c bx) := by kernel_rfl
theorem lg2 (x : Value) (k m n i c d : Int) (xs : List Value) (B : List Value → AH → Prop) (Q : AExit → List Value → AH → Prop) :
    once 1 Tryz.prog (SLg x k m) [] noHooks 600 54 [0, 2, 41, 42, 43] [0] [0, 2, 6] [0] (oneLoop (codeOf Tryz.f29) 11) [p0V, .int .i64 d, fz ⟨xs⟩, .int .i64 n, .int .i64 i] (lgJ c) B Q =
      bif decide (i < n) then bif decide (0 ≤ i) && decide (i < ((Array.mk xs).size : Int)) && Nat.beq (e7 (elV xs i)).cells.size 7 then elV xs i = e7 (elV xs i) ∧
        (bif eqV (m6 (elV xs i)) x && Nat.beq 96 96 && decide (0 ≤ c) && decide (c + k ≤ 5000) && decide (0 ≤ IntKind.i64.wrap (d + 1)) && decide (IntKind.i64.wrap (d + 1) + m ≤ 50) && true then NoNames (ctO (c + k)) ∧ B [p0V, .int .i64 d, fz ⟨xs⟩, .int .i64 n, .int .i64 (IntKind.i64.wrap (i + 1))] (lgJ (c + k)) else False) else False
      else NoNames (ctO c) ∧ Q (.exit 2) [p0V, .int .i64 d, anyV] (lgJ c) := by kernel_rfl
theorem someLG : Tryz.f29.body.isSome = true := by kernel_rfl
theorem oneLG5 : (loopAt (codeOf Tryz.f29) 5).length = 1 := by kernel_rfl
theorem oneLG11 : (loopAt (codeOf Tryz.f29) 11).length = 1 := by kernel_rfl
theorem lg0 (k n c c1 c2 d : Int) (f : Bool) (s : ByteArray) (xs ys : List Value) (C D : List Value → AH → Prop) (Q : Value → AH → Prop) :
    tfn Tryz.prog SP0 [] (hookOr (hook1 5 (hookLS 1 54 [0, 2, 4, 28, 29, 30] [0, 1] [0, 2, 4, 6] (fun vals h K => C vals h ∧ K (.exit 0) [p0V, .int .i64 d, p1V, anyV] (lgH c1 [.int .i64 k, .bool f, .int .i64 n, .string s, fz ⟨xs⟩, fz ⟨ys⟩]))))
      (hook1 11 (hookLS 1 54 [0, 2, 41, 42, 43] [0] [0, 2, 6] (fun vals h K => D vals h ∧ K (.exit 2) [p0V, .int .i64 d, anyV] (lgJ c2))))) 600 [] Tryz.f29 [p0V, vV k f n s xs ys, .int .i64 d] (cH c) Q =
      bif decide (IntKind.i64.wrap (c + 1) > 5000) then Q (.bool true) (lgH0 (IntKind.i64.wrap (c + 1)) [.int .i64 k, .bool f, .int .i64 n, .string s, fz ⟨xs⟩, fz ⟨ys⟩])
      else bif (bif false then true else decide (d > 50)) then Q (.bool true) (lgH0 (IntKind.i64.wrap (c + 1)) [.int .i64 k, .bool f, .int .i64 n, .string s, fz ⟨xs⟩, fz ⟨ys⟩])
      else NoNames (ctO (IntKind.i64.wrap (c + 1))) ∧ NoNames (bxO [.int .i64 k, .bool f, .int .i64 n, .string s, fz ⟨xs⟩, fz ⟨ys⟩]) ∧ C [p0V, .int .i64 d, p1V, fz ⟨xs⟩, .int .i64 ((Array.mk xs).size : Int), .int .i64 0] (lgH (IntKind.i64.wrap (c + 1)) [.int .i64 k, .bool f, .int .i64 n, .string s, fz ⟨xs⟩, fz ⟨ys⟩]) ∧
        NoNames (ctO c1) ∧ D [p0V, .int .i64 d, fz ⟨ys⟩, .int .i64 ((Array.mk ys).size : Int), .int .i64 0] (lgJ c1) ∧ Q (.bool false) (lgJ c2) := by kernel_rfl
end Go.Proofs.YtmclppkligkooaaGreatDoor
