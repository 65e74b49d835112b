/-
  Paths to leaves: leaves: its heads and rounds.
-/
import Derived.Test.YtmclppkligkooaaGreatDoorLvA
namespace Go.Proofs.YtmclppkligkooaaGreatDoor
open Go.Ev Go.RowKit

noncomputable def spCs (P : Value) (f : FuncId) (args : Array Value) (h : AH) : Option (Bool × Value × AH) :=
  cond (Nat.beq f 31) (match args with
    | ⟨[a]⟩ => some (eqV a P, P, h)
    | _ => none) none
noncomputable def spBp (ok : Bool) (P s q : Value) (f : FuncId) (args : Array Value) (h : AH) : Option (Bool × Value × AH) :=
  cond (Nat.beq f 32) (match args with
    | ⟨[a, b]⟩ => some (ok && eqV a P && eqV b s, q, h)
    | _ => none) none
noncomputable def spLv (ok : Bool) (x P : Value) (ts : List Value) (f : FuncId) (args : Array Value) (h : AH) : Option (Bool × Value × AH) :=
  cond (Nat.beq f 16) (match args with
    | ⟨[o, y, q]⟩ => match o with
      | .slice none 0 0 => some (ok && eqV y x && eqV q P && Nat.ble ts.length 5000, .slice (some ⟨h.next, 0, none⟩) ts.length ts.length, h.push (.cells ⟨ts⟩ 35 (0, 0)))
      | .slice (some ⟨b, 0, none⟩) n m => match h.get b with
        | some (.cells ⟨cs⟩ t (0, 0)) => some (ok && eqV y x && eqV q P && Nat.beq m n && Nat.beq t 35 && Nat.blt b h.next && Nat.beq cs.length n && Nat.ble 1 n && Nat.ble (n + ts.length) 5000 && cs.all p1, .slice (some ⟨h.next, 0, none⟩) (n + ts.length) (n + ts.length), (h.del b).push (.cells ⟨cs ++ ts⟩ 35 (0, 0)))
        | _ => none
      | _ => none
    | _ => none) none
noncomputable def SCs (P : Value) : SC := ⟨idn, spCs P, true, true⟩
noncomputable def SBL (ok : Bool) (P s q x : Value) (ts : List Value) : SC := ⟨idn, spOr (spBp ok P s q) (spLv ok x q ts), true, true⟩
def bO (k : Int) (f : Bool) (n : Int) (s : ByteArray) (xs ys : List Value) : Obj := .cells ⟨[.int .i64 k, .bool f, .int .i64 n, .string s, fz ⟨xs⟩, fz ⟨ys⟩]⟩ 29 (0, 0)
def lN (k : Int) (f : Bool) (n : Int) (s : ByteArray) (xs ys : List Value) : AH := ⟨1, 1, [(0, bO k f n s xs ys)]⟩
def lB (k : Int) (f : Bool) (n : Int) (s : ByteArray) (xs ys cs : List Value) (j : Nat) : AH := ⟨2, 2, [(0, .cells ⟨cs⟩ 35 (0, 0)), (1, bO k f n s xs ys)]⟩
def oB (cs : List Value) (_ : Nat) : AH := ⟨1, 1, [(0, .cells ⟨cs⟩ 35 (0, 0))]⟩
def siV (i : Int) : Value := .agg ⟨[.bool false, .string ⟨#[]⟩, .int .i64 i]⟩
def smV (s : ByteArray) : Value := .agg ⟨[.bool true, .string s, .int .i64 0]⟩
def slV (j : Nat) : Value := .slice (some ⟨0, 0, none⟩) j j
theorem lv1n (ok : Bool) (X Y : List Value) (x : Value) (ts : List Value) (k0 : Int) (f0 : Bool) (n0 : Int) (s0 : ByteArray) (xs ys : List Value) (zs : List Value) (n i : Int) (B : List Value → AH → Prop) (Q : AExit → List Value → AH → Prop) :
    once 0 Tryz.prog (SBL ok (fz ⟨X⟩) (siV i) (fz ⟨Y⟩) x ts) [] noHooks 900 60 [0, 2, 4, 27, 28, 29] [0] [0, 2, 4] [0] (oneLoop (codeOf Tryz.f16) 4) [nlV, fz ⟨X⟩, p0V, fz ⟨zs⟩, .int .i64 n, .int .i64 i] (lN k0 f0 n0 s0 xs ys) B Q =
      bif decide (i < n) then bif decide (0 ≤ i) && decide (i < ((Array.mk zs).size : Int)) && Nat.beq (e6 (elV zs i)).cells.size 6 then elV zs i = e6 (elV zs i) ∧
        (bif ok && eqV (fz ⟨X⟩) (fz ⟨X⟩) && eqV (siV i) (siV i) then bif ok && eqV (e6 (elV zs i)) x && eqV (fz ⟨Y⟩) (fz ⟨Y⟩) && Nat.ble ts.length 5000 then NoNames (.cells ⟨ts⟩ 35 (0, 0)) ∧ B [slV ts.length, fz ⟨X⟩, p1V, fz ⟨zs⟩, .int .i64 n, .int .i64 (IntKind.i64.wrap (i + 1))] (lB k0 f0 n0 s0 xs ys ts ts.length) else False else False) else False
      else NoNames (bO k0 f0 n0 s0 xs ys) ∧ Q (.exit 0) [nlV, fz ⟨X⟩, p0V] (lN k0 f0 n0 s0 xs ys) := by kernel_rfl
theorem lv1b (ok : Bool) (X Y : List Value) (x : Value) (ts : List Value) (k0 : Int) (f0 : Bool) (n0 : Int) (s0 : ByteArray) (xs ys : List Value) (zs : List Value) (cs : List Value) (j : Nat) (n i : Int) (B : List Value → AH → Prop) (Q : AExit → List Value → AH → Prop) :
    once 0 Tryz.prog (SBL ok (fz ⟨X⟩) (siV i) (fz ⟨Y⟩) x ts) [] noHooks 900 60 [0, 2, 4, 27, 28, 29] [0] [0, 2, 4] [0] (oneLoop (codeOf Tryz.f16) 4) [slV j, fz ⟨X⟩, p1V, fz ⟨zs⟩, .int .i64 n, .int .i64 i] (lB k0 f0 n0 s0 xs ys cs j) B Q =
      bif decide (i < n) then bif decide (0 ≤ i) && decide (i < ((Array.mk zs).size : Int)) && Nat.beq (e6 (elV zs i)).cells.size 6 then elV zs i = e6 (elV zs i) ∧
        (bif ok && eqV (fz ⟨X⟩) (fz ⟨X⟩) && eqV (siV i) (siV i) then bif ok && eqV (e6 (elV zs i)) x && eqV (fz ⟨Y⟩) (fz ⟨Y⟩) && Nat.beq j j && true && true && Nat.beq cs.length j && Nat.ble 1 j && Nat.ble (j + ts.length) 5000 && cs.all p1 then NoNames (.cells ⟨cs ++ ts⟩ 35 (0, 0)) ∧ B [slV (j + ts.length), fz ⟨X⟩, p1V, fz ⟨zs⟩, .int .i64 n, .int .i64 (IntKind.i64.wrap (i + 1))] (lB k0 f0 n0 s0 xs ys (cs ++ ts) (j + ts.length)) else False else False) else False
      else NoNames (.cells ⟨cs⟩ 35 (0, 0)) ∧ Q (.exit 0) [slV j, fz ⟨X⟩, p1V] (lB k0 f0 n0 s0 xs ys cs j) := by kernel_rfl
theorem lv2n (ok : Bool) (X Y : List Value) (x : Value) (ts : List Value) (zs : List Value) (n i : Int) (B : List Value → AH → Prop) (Q : AExit → List Value → AH → Prop) :
    once 0 Tryz.prog (SBL ok (fz ⟨X⟩) (smV (elS zs i)) (fz ⟨Y⟩) x ts) [] noHooks 900 60 [0, 2, 43, 44, 45] [0] [0] [0] (oneLoop (codeOf Tryz.f16) 9) [nlV, fz ⟨X⟩, fz ⟨zs⟩, .int .i64 n, .int .i64 i] h0 B Q =
      bif decide (i < n) then bif decide (0 ≤ i) && decide (i < ((Array.mk zs).size : Int)) && Nat.beq (e7 (elV zs i)).cells.size 7 then elV zs i = e7 (elV zs i) ∧
        (bif ok && eqV (fz ⟨X⟩) (fz ⟨X⟩) && eqV (smV (elS zs i)) (smV (elS zs i)) then bif ok && eqV (m6 (elV zs i)) x && eqV (fz ⟨Y⟩) (fz ⟨Y⟩) && Nat.ble ts.length 5000 then NoNames (.cells ⟨ts⟩ 35 (0, 0)) ∧ B [slV ts.length, fz ⟨X⟩, fz ⟨zs⟩, .int .i64 n, .int .i64 (IntKind.i64.wrap (i + 1))] (oB ts ts.length) else False else False) else False
      else Q (.exit 2) [nlV] h0 := by kernel_rfl
theorem lv2b (ok : Bool) (X Y : List Value) (x : Value) (ts : List Value) (zs : List Value) (cs : List Value) (j : Nat) (n i : Int) (B : List Value → AH → Prop) (Q : AExit → List Value → AH → Prop) :
    once 0 Tryz.prog (SBL ok (fz ⟨X⟩) (smV (elS zs i)) (fz ⟨Y⟩) x ts) [] noHooks 900 60 [0, 2, 43, 44, 45] [0] [0] [0] (oneLoop (codeOf Tryz.f16) 9) [slV j, fz ⟨X⟩, fz ⟨zs⟩, .int .i64 n, .int .i64 i] (oB cs j) B Q =
      bif decide (i < n) then bif decide (0 ≤ i) && decide (i < ((Array.mk zs).size : Int)) && Nat.beq (e7 (elV zs i)).cells.size 7 then elV zs i = e7 (elV zs i) ∧
        (bif ok && eqV (fz ⟨X⟩) (fz ⟨X⟩) && eqV (smV (elS zs i)) (smV (elS zs i)) then bif ok && eqV (m6 (elV zs i)) x && eqV (fz ⟨Y⟩) (fz ⟨Y⟩) && Nat.beq j j && true && true && Nat.beq cs.length j && Nat.ble 1 j && Nat.ble (j + ts.length) 5000 && cs.all p1 then NoNames (.cells ⟨cs ++ ts⟩ 35 (0, 0)) ∧ B [slV (j + ts.length), fz ⟨X⟩, fz ⟨zs⟩, .int .i64 n, .int .i64 (IntKind.i64.wrap (i + 1))] (oB (cs ++ ts) (j + ts.length)) else False else False) else False
      else NoNames (.cells ⟨cs⟩ 35 (0, 0)) ∧ Q (.exit 2) [slV j] (oB cs j) := by kernel_rfl
theorem lfn (k : Int) (f : Bool) (n : Int) (s : ByteArray) (X : List Value) (Q : Option (Nat × Nat) → Option Obj → Prop) : tfn Tryz.prog (SCs (fz ⟨X⟩)) [] noHooks 1500 [] Tryz.f16 [nlV, vV k f n s [] [], fz ⟨X⟩] h0 (fun v h => Q (slN v) (h.get (blkOf v))) =
    (bif eqV (fz ⟨X⟩) (fz ⟨X⟩) then Q (some (1, 1)) (some (.cells ⟨[fz ⟨X⟩]⟩ 35 (0, 0))) else False) := by kernel_rfl
theorem lfb (k : Int) (f : Bool) (n : Int) (s : ByteArray) (X : List Value) (cs : List Value) (j : Nat) (Q : Option (Nat × Nat) → Option Obj → Prop) : tfn Tryz.prog (SCs (fz ⟨X⟩)) [] noHooks 1500 [] Tryz.f16 [.slice (some ⟨0, 0, none⟩) j j, vV k f n s [] [], fz ⟨X⟩] (oB cs j) (fun v h => Q (slN v) (h.get (blkOf v))) =
    (bif eqV (fz ⟨X⟩) (fz ⟨X⟩) then bif (j + 1).ble j then False else bif (j + 1).ble 9223372036854775807 && ((j + 1) * 24).ble 140737488355328 then bif (0 + j * 1).ble (Array.mk cs).size && true && true then Q (some (j + 1, j + 1)) (some (.cells ⟨List.take (j * 1) (List.drop 0 (Array.mk cs).toList) ++ [fz ⟨X⟩]⟩ 35 (0, 0))) else False else False else False) := by kernel_rfl
theorem l4n (k : Int) (f : Bool) (n : Int) (s : ByteArray) (X : List Value) (x : Value) (l : List Value) (C : List Value → AH → Prop) (cs2 : List Value) (j2 : Nat) (Q : Option (Nat × Nat) → Option Obj → Prop) : tfn Tryz.prog SP0 [] (hook1 4 (hookLS 0 60 [0, 2, 4, 27, 28, 29] [0] [0, 2, 4] (fun vals h K => C vals h ∧ K (.exit 0) [.slice (some ⟨0, 0, none⟩) j2 j2, fz ⟨X⟩, p1V] (lB k f n s (x :: l) [] cs2 j2)))) 1500 [] Tryz.f16 [nlV, vV k f n s (x :: l) [], fz ⟨X⟩] h0 (fun v h => Q (slN v) (h.get (blkOf v))) =
    (NoNames (bO k f n s (x :: l) []) ∧ C [nlV, fz ⟨X⟩, p0V, fz ⟨x :: l⟩, .int .i64 ((Array.mk (x :: l)).size : Int), .int .i64 0] (lN k f n s (x :: l) []) ∧ Q (some (j2, j2)) (some (.cells ⟨cs2⟩ 35 (0, 0)))) := by kernel_rfl
theorem l4b (k : Int) (f : Bool) (n : Int) (s : ByteArray) (X : List Value) (x : Value) (l : List Value) (C : List Value → AH → Prop) (cs2 : List Value) (j2 : Nat) (cs : List Value) (j : Nat) (Q : Option (Nat × Nat) → Option Obj → Prop) : tfn Tryz.prog SP0 [] (hook1 4 (hookLS 0 60 [0, 2, 4, 27, 28, 29] [0] [0, 2, 4] (fun vals h K => C vals h ∧ K (.exit 0) [.slice (some ⟨0, 0, none⟩) j2 j2, fz ⟨X⟩, p1V] (lB k f n s (x :: l) [] cs2 j2)))) 1500 [] Tryz.f16 [.slice (some ⟨0, 0, none⟩) j j, vV k f n s (x :: l) [], fz ⟨X⟩] (oB cs j) (fun v h => Q (slN v) (h.get (blkOf v))) =
    (NoNames (.cells ⟨cs⟩ 35 (0, 0)) ∧ C [slV j, fz ⟨X⟩, p1V, fz ⟨x :: l⟩, .int .i64 ((Array.mk (x :: l)).size : Int), .int .i64 0] (lB k f n s (x :: l) [] cs j) ∧ Q (some (j2, j2)) (some (.cells ⟨cs2⟩ 35 (0, 0)))) := by kernel_rfl
theorem l5n (k : Int) (f : Bool) (n : Int) (s : ByteArray) (X : List Value) (x : Value) (l : List Value) (C : List Value → AH → Prop) (cs2 : List Value) (j2 : Nat) (Q : Option (Nat × Nat) → Option Obj → Prop) : tfn Tryz.prog SP0 [] (hook1 9 (hookLS 0 60 [0, 2, 43, 44, 45] [0] [0] (fun vals h K => C vals h ∧ K (.exit 2) [.slice (some ⟨0, 0, none⟩) j2 j2] (oB cs2 j2)))) 1500 [] Tryz.f16 [nlV, vV k f n s [] (x :: l), fz ⟨X⟩] h0 (fun v h => Q (slN v) (h.get (blkOf v))) =
    (C [nlV, fz ⟨X⟩, fz ⟨x :: l⟩, .int .i64 ((Array.mk (x :: l)).size : Int), .int .i64 0] h0 ∧ Q (some (j2, j2)) (some (.cells ⟨cs2⟩ 35 (0, 0)))) := by kernel_rfl
theorem l5b (k : Int) (f : Bool) (n : Int) (s : ByteArray) (X : List Value) (x : Value) (l : List Value) (C : List Value → AH → Prop) (cs2 : List Value) (j2 : Nat) (cs : List Value) (j : Nat) (Q : Option (Nat × Nat) → Option Obj → Prop) : tfn Tryz.prog SP0 [] (hook1 9 (hookLS 0 60 [0, 2, 43, 44, 45] [0] [0] (fun vals h K => C vals h ∧ K (.exit 2) [.slice (some ⟨0, 0, none⟩) j2 j2] (oB cs2 j2)))) 1500 [] Tryz.f16 [.slice (some ⟨0, 0, none⟩) j j, vV k f n s [] (x :: l), fz ⟨X⟩] (oB cs j) (fun v h => Q (slN v) (h.get (blkOf v))) =
    (NoNames (.cells ⟨cs⟩ 35 (0, 0)) ∧ C [slV j, fz ⟨X⟩, fz ⟨x :: l⟩, .int .i64 ((Array.mk (x :: l)).size : Int), .int .i64 0] (oB cs j) ∧ Q (some (j2, j2)) (some (.cells ⟨cs2⟩ 35 (0, 0)))) := by kernel_rfl
end Go.Proofs.YtmclppkligkooaaGreatDoor
