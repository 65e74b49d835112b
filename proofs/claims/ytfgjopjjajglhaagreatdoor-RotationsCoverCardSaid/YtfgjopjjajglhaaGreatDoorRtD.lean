/-
  Signers in a row: 'Uncovered': its rounds.
-/
import Derived.Test.YtfgjopjjajglhaaGreatDoorRtC
namespace Go.Proofs.YtfgjopjjajglhaaGreatDoor
open Go.Ev Go.RowKit RotLaw

noncomputable def SU1 : SC := ⟨idn, fun _ _ _ => none, false, true⟩
theorem SU1_ok : SU1.cfg.OK Tryz.prog := none_ok.cfg
noncomputable def SU2 : SC := ⟨idn, spSa, false, true⟩
theorem SU2_ok : SU2.cfg.OK Tryz.prog := spSa_ok.cfg
def nilV : Value := .slice none 0 0
def iv (vs : List Value) (life : Int) (m : Nat) (len i j : Int) : List Value := [fz ⟨vs⟩, .int .i64 life, .pointer (some ⟨0, 0, none⟩), .slice (some ⟨1, 0, none⟩) m m, fz ⟨vs⟩, .int .i64 len, .int .i64 i, .slice (some ⟨2, 0, none⟩) 3 3, .int .i64 3, .int .i64 j]
def ov (vs : List Value) (life : Int) (m : Nat) (len i : Int) : List Value := [fz ⟨vs⟩, .int .i64 life, .pointer (some ⟨0, 0, none⟩), .slice (some ⟨1, 0, none⟩) m m, fz ⟨vs⟩, .int .i64 len, .int .i64 i]
def iH (T : Int) (cs : List Value) (a b c : Int) : AH := ⟨3, 3, [(0, .cells ⟨[.int .i64 0, .int .i64 T]⟩ 40 (0, 0)), (1, .cells ⟨cs⟩ 3 (0, 0)), (2, .cells ⟨[.int .i64 a, .int .i64 b, .int .i64 c]⟩ 3 (0, 0))]⟩
def oH (T : Int) (cs : List Value) : AH := ⟨2, 2, [(0, .cells ⟨[.int .i64 0, .int .i64 T]⟩ 40 (0, 0)), (1, .cells ⟨cs⟩ 3 (0, 0))]⟩
def aH (cs : List Value) : AH := ⟨1, 1, [(0, .cells ⟨cs⟩ 3 (0, 0))]⟩
def uv (vs : List Value) (life : Int) (W : List Int) (out : Value) (i : Int) : List Value := [fz ⟨vs⟩, .int .i64 life, fz ⟨W.map iV⟩, out, .int .i64 i]
def sg0 : Sg := ⟨0, 0, 0, 0⟩
noncomputable def apT (T x : Int) (cs : List Value) (m : Nat) (K : List Value → Nat → Prop) : Prop :=
  bif decide (x > 0) then bif decide (x < T) then bif (m + 1).ble m then False else bif (m + 1).ble 9223372036854775807 && ((m + 1) * 8).ble 140737488355328 then bif (0 + m * 1).ble (Array.mk cs).size && true && true then
    K (List.take (m * 1) (List.drop 0 (Array.mk cs).toList) ++ [.int .i64 x]) (m + 1) else False else False else K cs m else K cs m
theorem ri0 (vs : List Value) (life T len i a b c : Int) (m : Nat) (cs : List Value) (B : List Value → AH → Prop) (Q : AExit → List Value → AH → Prop) : once 0 Tryz.prog SU1 [] noHooks 600 152 [0, 2, 4, 9, 43, 44, 45, 58, 59, 60] [1] [0, 2, 4, 9, 43, 44, 45] [1] (oneLoop (oneLoop (codeOf Tryz.f7) 8) 11) (iv vs life m len i 0) (iH T cs a b c) B Q =
    apT T a cs m (fun cs m => NoNames (.cells ⟨cs⟩ 3 (0, 0)) ∧ B (iv vs life m len i 1) (iH T cs a b c)) := by kernel_rfl
theorem ri1 (vs : List Value) (life T len i a b c : Int) (m : Nat) (cs : List Value) (B : List Value → AH → Prop) (Q : AExit → List Value → AH → Prop) : once 0 Tryz.prog SU1 [] noHooks 600 152 [0, 2, 4, 9, 43, 44, 45, 58, 59, 60] [1] [0, 2, 4, 9, 43, 44, 45] [1] (oneLoop (oneLoop (codeOf Tryz.f7) 8) 11) (iv vs life m len i 1) (iH T cs a b c) B Q =
    apT T b cs m (fun cs m => NoNames (.cells ⟨cs⟩ 3 (0, 0)) ∧ B (iv vs life m len i 2) (iH T cs a b c)) := by kernel_rfl
theorem ri2 (vs : List Value) (life T len i a b c : Int) (m : Nat) (cs : List Value) (B : List Value → AH → Prop) (Q : AExit → List Value → AH → Prop) : once 0 Tryz.prog SU1 [] noHooks 600 152 [0, 2, 4, 9, 43, 44, 45, 58, 59, 60] [1] [0, 2, 4, 9, 43, 44, 45] [1] (oneLoop (oneLoop (codeOf Tryz.f7) 8) 11) (iv vs life m len i 2) (iH T cs a b c) B Q =
    apT T c cs m (fun cs m => NoNames (.cells ⟨cs⟩ 3 (0, 0)) ∧ B (iv vs life m len i 3) (iH T cs a b c)) := by kernel_rfl
theorem ri3 (vs : List Value) (life T len i a b c : Int) (m : Nat) (cs : List Value) (B : List Value → AH → Prop) (Q : AExit → List Value → AH → Prop) : once 0 Tryz.prog SU1 [] noHooks 600 152 [0, 2, 4, 9, 43, 44, 45, 58, 59, 60] [1] [0, 2, 4, 9, 43, 44, 45] [1] (oneLoop (oneLoop (codeOf Tryz.f7) 8) 11) (iv vs life m len i 3) (iH T cs a b c) B Q =
    (NoNames (.cells ⟨cs⟩ 3 (0, 0)) ∧ Q (.exit 2) (ov vs life m len i) (oH T cs)) := by kernel_rfl
set_option maxRecDepth 20000 in
theorem roX (life T : Int) (m m2 : Nat) (cs cs2 : List Value) (C : List Value → AH → Prop) (B : List Value → AH → Prop) (Q : AExit → List Value → AH → Prop) : ∀ (L : List Sg) (i : Nat), L.length ≤ 4 → i < L.length → once 0 Tryz.prog SU1 [] (hook1 11 (hookLS 0 152 [0, 2, 4, 9, 43, 44, 45, 58, 59, 60] [1] [0, 2, 4, 9, 43, 44, 45] (fun vals h K => C vals h ∧ K (.exit 2) (ov (L.map svV) life m2 (L.length : Int) (i : Int)) (oH T cs2)))) 600 152 [0, 2, 4, 9, 43, 44, 45] [1] [0, 2, 9] [0] (oneLoop (codeOf Tryz.f7) 8) (ov (L.map svV) life m (L.length : Int) (i : Int)) (oH T cs) B Q =
    (NoNames (.cells ⟨cs⟩ 3 (0, 0)) ∧ C (iv (L.map svV) life m (L.length : Int) (i : Int) 0) (iH T cs (L.getD i sg0).fr (L.getD i sg0).to (IntKind.i64.wrap (IntKind.i64.wrap ((L.getD i sg0).un - life) + 1))) ∧
      NoNames (.cells ⟨cs2⟩ 3 (0, 0)) ∧ B (ov (L.map svV) life m2 (L.length : Int) ((i + 1 : Nat) : Int)) (oH T cs2))
  | [a], 0, _, _ => by kernel_rfl
  | [a, b], 0, _, _ => by kernel_rfl
  | [a, b], 1, _, _ => by kernel_rfl
  | [a, b, c], 0, _, _ => by kernel_rfl
  | [a, b, c], 1, _, _ => by kernel_rfl
  | [a, b, c], 2, _, _ => by kernel_rfl
  | [a, b, c, d], 0, _, _ => by kernel_rfl
  | [a, b, c, d], 1, _, _ => by kernel_rfl
  | [a, b, c, d], 2, _, _ => by kernel_rfl
  | [a, b, c, d], 3, _, _ => by kernel_rfl
  | _ :: _ :: _ :: _ :: _ :: _, _, h, _ => absurd h (by simp)
  | [], _, _, h => absurd h (by simp)
  | [_], i + 1, _, h => absurd h (by simp)
  | [_, _], i + 2, _, h => absurd h (by simp)
  | [_, _, _], i + 3, _, h => absurd h (by simp)
  | [_, _, _, _], i + 4, _, h => absurd h (by simp)
theorem roE (life T : Int) (m : Nat) (cs : List Value) (B : List Value → AH → Prop) (Q : AExit → List Value → AH → Prop) : ∀ L : List Sg, L.length ≤ 4 → once 0 Tryz.prog SU1 [] noHooks 600 152 [0, 2, 4, 9, 43, 44, 45] [1] [0, 2, 9] [0] (oneLoop (codeOf Tryz.f7) 8) (ov (L.map svV) life m (L.length : Int) (L.length : Int)) (oH T cs) B Q = (NoNames (.cells ⟨cs⟩ 3 (0, 0)) ∧ Q (.exit 0) [fz ⟨L.map svV⟩, .int .i64 life, .slice (some ⟨0, 0, none⟩) m m] (aH cs))
  | [], _ => by kernel_rfl
  | [a], _ => by kernel_rfl
  | [a, b], _ => by kernel_rfl
  | [a, b, c], _ => by kernel_rfl
  | [a, b, c, d], _ => by kernel_rfl
  | _ :: _ :: _ :: _ :: _ :: _, h => absurd h (by simp)
theorem un2 (vs : List Value) (life : Int) (w0 w1 : Int) (B : List Value → AH → Prop) (Q : AExit → List Value → AH → Prop) : ∀ i : Nat, i < 1 → once 0 Tryz.prog SU2 [] noHooks 600 152 [0, 2, 9, 14, 15] [] [14] [] (oneLoop (codeOf Tryz.f7) 21) (uv vs life [w0, w1] nilV (i : Int)) h0 B Q =
    bif okSa vs (List.getD [w0, w1] i 0) then bif decide ((saW vs (List.getD [w0, w1] i 0)).un ≥ IntKind.i64.wrap (List.getD [w0, w1] i 0 + life)) then B (uv vs life [w0, w1] nilV ((i + 1 : Nat) : Int)) h0
      else B (uv vs life [w0, w1] (.slice (some ⟨0, 0, none⟩) 1 1) ((i + 1 : Nat) : Int)) ⟨1, 1, [(0, .cells ⟨[.int .i64 (List.getD [w0, w1] i 0), .int .i64 (List.getD [w0, w1] (i + 1) 0)]⟩ 40 (0, 0))]⟩ else False
  | 0, _ => by kernel_rfl
  | i + 1, h => absurd h (by omega)
theorem uE2 (vs : List Value) (life : Int) (w0 w1 : Int) (B : List Value → AH → Prop) (Q : AExit → List Value → AH → Prop) : once 0 Tryz.prog SU2 [] noHooks 600 152 [0, 2, 9, 14, 15] [] [14] [] (oneLoop (codeOf Tryz.f7) 21) (uv vs life [w0, w1] nilV 1) h0 B Q = Q (.exit 4) [nilV] h0 := by kernel_rfl
theorem un3 (vs : List Value) (life : Int) (w0 w1 w2 : Int) (B : List Value → AH → Prop) (Q : AExit → List Value → AH → Prop) : ∀ i : Nat, i < 2 → once 0 Tryz.prog SU2 [] noHooks 600 152 [0, 2, 9, 14, 15] [] [14] [] (oneLoop (codeOf Tryz.f7) 21) (uv vs life [w0, w1, w2] nilV (i : Int)) h0 B Q =
    bif okSa vs (List.getD [w0, w1, w2] i 0) then bif decide ((saW vs (List.getD [w0, w1, w2] i 0)).un ≥ IntKind.i64.wrap (List.getD [w0, w1, w2] i 0 + life)) then B (uv vs life [w0, w1, w2] nilV ((i + 1 : Nat) : Int)) h0
      else B (uv vs life [w0, w1, w2] (.slice (some ⟨0, 0, none⟩) 1 1) ((i + 1 : Nat) : Int)) ⟨1, 1, [(0, .cells ⟨[.int .i64 (List.getD [w0, w1, w2] i 0), .int .i64 (List.getD [w0, w1, w2] (i + 1) 0)]⟩ 40 (0, 0))]⟩ else False
  | 0, _ => by kernel_rfl
  | 1, _ => by kernel_rfl
  | i + 2, h => absurd h (by omega)
theorem uE3 (vs : List Value) (life : Int) (w0 w1 w2 : Int) (B : List Value → AH → Prop) (Q : AExit → List Value → AH → Prop) : once 0 Tryz.prog SU2 [] noHooks 600 152 [0, 2, 9, 14, 15] [] [14] [] (oneLoop (codeOf Tryz.f7) 21) (uv vs life [w0, w1, w2] nilV 2) h0 B Q = Q (.exit 4) [nilV] h0 := by kernel_rfl
theorem un4 (vs : List Value) (life : Int) (w0 w1 w2 w3 : Int) (B : List Value → AH → Prop) (Q : AExit → List Value → AH → Prop) : ∀ i : Nat, i < 3 → once 0 Tryz.prog SU2 [] noHooks 600 152 [0, 2, 9, 14, 15] [] [14] [] (oneLoop (codeOf Tryz.f7) 21) (uv vs life [w0, w1, w2, w3] nilV (i : Int)) h0 B Q =
    bif okSa vs (List.getD [w0, w1, w2, w3] i 0) then bif decide ((saW vs (List.getD [w0, w1, w2, w3] i 0)).un ≥ IntKind.i64.wrap (List.getD [w0, w1, w2, w3] i 0 + life)) then B (uv vs life [w0, w1, w2, w3] nilV ((i + 1 : Nat) : Int)) h0
      else B (uv vs life [w0, w1, w2, w3] (.slice (some ⟨0, 0, none⟩) 1 1) ((i + 1 : Nat) : Int)) ⟨1, 1, [(0, .cells ⟨[.int .i64 (List.getD [w0, w1, w2, w3] i 0), .int .i64 (List.getD [w0, w1, w2, w3] (i + 1) 0)]⟩ 40 (0, 0))]⟩ else False
  | 0, _ => by kernel_rfl
  | 1, _ => by kernel_rfl
  | 2, _ => by kernel_rfl
  | i + 3, h => absurd h (by omega)
theorem uE4 (vs : List Value) (life : Int) (w0 w1 w2 w3 : Int) (B : List Value → AH → Prop) (Q : AExit → List Value → AH → Prop) : once 0 Tryz.prog SU2 [] noHooks 600 152 [0, 2, 9, 14, 15] [] [14] [] (oneLoop (codeOf Tryz.f7) 21) (uv vs life [w0, w1, w2, w3] nilV 3) h0 B Q = Q (.exit 4) [nilV] h0 := by kernel_rfl
theorem un5 (vs : List Value) (life : Int) (w0 w1 w2 w3 w4 : Int) (B : List Value → AH → Prop) (Q : AExit → List Value → AH → Prop) : ∀ i : Nat, i < 4 → once 0 Tryz.prog SU2 [] noHooks 600 152 [0, 2, 9, 14, 15] [] [14] [] (oneLoop (codeOf Tryz.f7) 21) (uv vs life [w0, w1, w2, w3, w4] nilV (i : Int)) h0 B Q =
    bif okSa vs (List.getD [w0, w1, w2, w3, w4] i 0) then bif decide ((saW vs (List.getD [w0, w1, w2, w3, w4] i 0)).un ≥ IntKind.i64.wrap (List.getD [w0, w1, w2, w3, w4] i 0 + life)) then B (uv vs life [w0, w1, w2, w3, w4] nilV ((i + 1 : Nat) : Int)) h0
      else B (uv vs life [w0, w1, w2, w3, w4] (.slice (some ⟨0, 0, none⟩) 1 1) ((i + 1 : Nat) : Int)) ⟨1, 1, [(0, .cells ⟨[.int .i64 (List.getD [w0, w1, w2, w3, w4] i 0), .int .i64 (List.getD [w0, w1, w2, w3, w4] (i + 1) 0)]⟩ 40 (0, 0))]⟩ else False
  | 0, _ => by kernel_rfl
  | 1, _ => by kernel_rfl
  | 2, _ => by kernel_rfl
  | 3, _ => by kernel_rfl
  | i + 4, h => absurd h (by omega)
theorem uE5 (vs : List Value) (life : Int) (w0 w1 w2 w3 w4 : Int) (B : List Value → AH → Prop) (Q : AExit → List Value → AH → Prop) : once 0 Tryz.prog SU2 [] noHooks 600 152 [0, 2, 9, 14, 15] [] [14] [] (oneLoop (codeOf Tryz.f7) 21) (uv vs life [w0, w1, w2, w3, w4] nilV 4) h0 B Q = Q (.exit 4) [nilV] h0 := by kernel_rfl
theorem un6 (vs : List Value) (life : Int) (w0 w1 w2 w3 w4 w5 : Int) (B : List Value → AH → Prop) (Q : AExit → List Value → AH → Prop) : ∀ i : Nat, i < 5 → once 0 Tryz.prog SU2 [] noHooks 600 152 [0, 2, 9, 14, 15] [] [14] [] (oneLoop (codeOf Tryz.f7) 21) (uv vs life [w0, w1, w2, w3, w4, w5] nilV (i : Int)) h0 B Q =
    bif okSa vs (List.getD [w0, w1, w2, w3, w4, w5] i 0) then bif decide ((saW vs (List.getD [w0, w1, w2, w3, w4, w5] i 0)).un ≥ IntKind.i64.wrap (List.getD [w0, w1, w2, w3, w4, w5] i 0 + life)) then B (uv vs life [w0, w1, w2, w3, w4, w5] nilV ((i + 1 : Nat) : Int)) h0
      else B (uv vs life [w0, w1, w2, w3, w4, w5] (.slice (some ⟨0, 0, none⟩) 1 1) ((i + 1 : Nat) : Int)) ⟨1, 1, [(0, .cells ⟨[.int .i64 (List.getD [w0, w1, w2, w3, w4, w5] i 0), .int .i64 (List.getD [w0, w1, w2, w3, w4, w5] (i + 1) 0)]⟩ 40 (0, 0))]⟩ else False
  | 0, _ => by kernel_rfl
  | 1, _ => by kernel_rfl
  | 2, _ => by kernel_rfl
  | 3, _ => by kernel_rfl
  | 4, _ => by kernel_rfl
  | i + 5, h => absurd h (by omega)
theorem uE6 (vs : List Value) (life : Int) (w0 w1 w2 w3 w4 w5 : Int) (B : List Value → AH → Prop) (Q : AExit → List Value → AH → Prop) : once 0 Tryz.prog SU2 [] noHooks 600 152 [0, 2, 9, 14, 15] [] [14] [] (oneLoop (codeOf Tryz.f7) 21) (uv vs life [w0, w1, w2, w3, w4, w5] nilV 5) h0 B Q = Q (.exit 4) [nilV] h0 := by kernel_rfl
theorem un7 (vs : List Value) (life : Int) (w0 w1 w2 w3 w4 w5 w6 : Int) (B : List Value → AH → Prop) (Q : AExit → List Value → AH → Prop) : ∀ i : Nat, i < 6 → once 0 Tryz.prog SU2 [] noHooks 600 152 [0, 2, 9, 14, 15] [] [14] [] (oneLoop (codeOf Tryz.f7) 21) (uv vs life [w0, w1, w2, w3, w4, w5, w6] nilV (i : Int)) h0 B Q =
    bif okSa vs (List.getD [w0, w1, w2, w3, w4, w5, w6] i 0) then bif decide ((saW vs (List.getD [w0, w1, w2, w3, w4, w5, w6] i 0)).un ≥ IntKind.i64.wrap (List.getD [w0, w1, w2, w3, w4, w5, w6] i 0 + life)) then B (uv vs life [w0, w1, w2, w3, w4, w5, w6] nilV ((i + 1 : Nat) : Int)) h0
      else B (uv vs life [w0, w1, w2, w3, w4, w5, w6] (.slice (some ⟨0, 0, none⟩) 1 1) ((i + 1 : Nat) : Int)) ⟨1, 1, [(0, .cells ⟨[.int .i64 (List.getD [w0, w1, w2, w3, w4, w5, w6] i 0), .int .i64 (List.getD [w0, w1, w2, w3, w4, w5, w6] (i + 1) 0)]⟩ 40 (0, 0))]⟩ else False
  | 0, _ => by kernel_rfl
  | 1, _ => by kernel_rfl
  | 2, _ => by kernel_rfl
  | 3, _ => by kernel_rfl
  | 4, _ => by kernel_rfl
  | 5, _ => by kernel_rfl
  | i + 6, h => absurd h (by omega)
theorem uE7 (vs : List Value) (life : Int) (w0 w1 w2 w3 w4 w5 w6 : Int) (B : List Value → AH → Prop) (Q : AExit → List Value → AH → Prop) : once 0 Tryz.prog SU2 [] noHooks 600 152 [0, 2, 9, 14, 15] [] [14] [] (oneLoop (codeOf Tryz.f7) 21) (uv vs life [w0, w1, w2, w3, w4, w5, w6] nilV 6) h0 B Q = Q (.exit 4) [nilV] h0 := by kernel_rfl
theorem un8 (vs : List Value) (life : Int) (w0 w1 w2 w3 w4 w5 w6 w7 : Int) (B : List Value → AH → Prop) (Q : AExit → List Value → AH → Prop) : ∀ i : Nat, i < 7 → once 0 Tryz.prog SU2 [] noHooks 600 152 [0, 2, 9, 14, 15] [] [14] [] (oneLoop (codeOf Tryz.f7) 21) (uv vs life [w0, w1, w2, w3, w4, w5, w6, w7] nilV (i : Int)) h0 B Q =
    bif okSa vs (List.getD [w0, w1, w2, w3, w4, w5, w6, w7] i 0) then bif decide ((saW vs (List.getD [w0, w1, w2, w3, w4, w5, w6, w7] i 0)).un ≥ IntKind.i64.wrap (List.getD [w0, w1, w2, w3, w4, w5, w6, w7] i 0 + life)) then B (uv vs life [w0, w1, w2, w3, w4, w5, w6, w7] nilV ((i + 1 : Nat) : Int)) h0
      else B (uv vs life [w0, w1, w2, w3, w4, w5, w6, w7] (.slice (some ⟨0, 0, none⟩) 1 1) ((i + 1 : Nat) : Int)) ⟨1, 1, [(0, .cells ⟨[.int .i64 (List.getD [w0, w1, w2, w3, w4, w5, w6, w7] i 0), .int .i64 (List.getD [w0, w1, w2, w3, w4, w5, w6, w7] (i + 1) 0)]⟩ 40 (0, 0))]⟩ else False
  | 0, _ => by kernel_rfl
  | 1, _ => by kernel_rfl
  | 2, _ => by kernel_rfl
  | 3, _ => by kernel_rfl
  | 4, _ => by kernel_rfl
  | 5, _ => by kernel_rfl
  | 6, _ => by kernel_rfl
  | i + 7, h => absurd h (by omega)
theorem uE8 (vs : List Value) (life : Int) (w0 w1 w2 w3 w4 w5 w6 w7 : Int) (B : List Value → AH → Prop) (Q : AExit → List Value → AH → Prop) : once 0 Tryz.prog SU2 [] noHooks 600 152 [0, 2, 9, 14, 15] [] [14] [] (oneLoop (codeOf Tryz.f7) 21) (uv vs life [w0, w1, w2, w3, w4, w5, w6, w7] nilV 7) h0 B Q = Q (.exit 4) [nilV] h0 := by kernel_rfl
theorem un9 (vs : List Value) (life : Int) (w0 w1 w2 w3 w4 w5 w6 w7 w8 : Int) (B : List Value → AH → Prop) (Q : AExit → List Value → AH → Prop) : ∀ i : Nat, i < 8 → once 0 Tryz.prog SU2 [] noHooks 600 152 [0, 2, 9, 14, 15] [] [14] [] (oneLoop (codeOf Tryz.f7) 21) (uv vs life [w0, w1, w2, w3, w4, w5, w6, w7, w8] nilV (i : Int)) h0 B Q =
    bif okSa vs (List.getD [w0, w1, w2, w3, w4, w5, w6, w7, w8] i 0) then bif decide ((saW vs (List.getD [w0, w1, w2, w3, w4, w5, w6, w7, w8] i 0)).un ≥ IntKind.i64.wrap (List.getD [w0, w1, w2, w3, w4, w5, w6, w7, w8] i 0 + life)) then B (uv vs life [w0, w1, w2, w3, w4, w5, w6, w7, w8] nilV ((i + 1 : Nat) : Int)) h0
      else B (uv vs life [w0, w1, w2, w3, w4, w5, w6, w7, w8] (.slice (some ⟨0, 0, none⟩) 1 1) ((i + 1 : Nat) : Int)) ⟨1, 1, [(0, .cells ⟨[.int .i64 (List.getD [w0, w1, w2, w3, w4, w5, w6, w7, w8] i 0), .int .i64 (List.getD [w0, w1, w2, w3, w4, w5, w6, w7, w8] (i + 1) 0)]⟩ 40 (0, 0))]⟩ else False
  | 0, _ => by kernel_rfl
  | 1, _ => by kernel_rfl
  | 2, _ => by kernel_rfl
  | 3, _ => by kernel_rfl
  | 4, _ => by kernel_rfl
  | 5, _ => by kernel_rfl
  | 6, _ => by kernel_rfl
  | 7, _ => by kernel_rfl
  | i + 8, h => absurd h (by omega)
theorem uE9 (vs : List Value) (life : Int) (w0 w1 w2 w3 w4 w5 w6 w7 w8 : Int) (B : List Value → AH → Prop) (Q : AExit → List Value → AH → Prop) : once 0 Tryz.prog SU2 [] noHooks 600 152 [0, 2, 9, 14, 15] [] [14] [] (oneLoop (codeOf Tryz.f7) 21) (uv vs life [w0, w1, w2, w3, w4, w5, w6, w7, w8] nilV 8) h0 B Q = Q (.exit 4) [nilV] h0 := by kernel_rfl
theorem un10 (vs : List Value) (life : Int) (w0 w1 w2 w3 w4 w5 w6 w7 w8 w9 : Int) (B : List Value → AH → Prop) (Q : AExit → List Value → AH → Prop) : ∀ i : Nat, i < 9 → once 0 Tryz.prog SU2 [] noHooks 600 152 [0, 2, 9, 14, 15] [] [14] [] (oneLoop (codeOf Tryz.f7) 21) (uv vs life [w0, w1, w2, w3, w4, w5, w6, w7, w8, w9] nilV (i : Int)) h0 B Q =
    bif okSa vs (List.getD [w0, w1, w2, w3, w4, w5, w6, w7, w8, w9] i 0) then bif decide ((saW vs (List.getD [w0, w1, w2, w3, w4, w5, w6, w7, w8, w9] i 0)).un ≥ IntKind.i64.wrap (List.getD [w0, w1, w2, w3, w4, w5, w6, w7, w8, w9] i 0 + life)) then B (uv vs life [w0, w1, w2, w3, w4, w5, w6, w7, w8, w9] nilV ((i + 1 : Nat) : Int)) h0
      else B (uv vs life [w0, w1, w2, w3, w4, w5, w6, w7, w8, w9] (.slice (some ⟨0, 0, none⟩) 1 1) ((i + 1 : Nat) : Int)) ⟨1, 1, [(0, .cells ⟨[.int .i64 (List.getD [w0, w1, w2, w3, w4, w5, w6, w7, w8, w9] i 0), .int .i64 (List.getD [w0, w1, w2, w3, w4, w5, w6, w7, w8, w9] (i + 1) 0)]⟩ 40 (0, 0))]⟩ else False
  | 0, _ => by kernel_rfl
  | 1, _ => by kernel_rfl
  | 2, _ => by kernel_rfl
  | 3, _ => by kernel_rfl
  | 4, _ => by kernel_rfl
  | 5, _ => by kernel_rfl
  | 6, _ => by kernel_rfl
  | 7, _ => by kernel_rfl
  | 8, _ => by kernel_rfl
  | i + 9, h => absurd h (by omega)
theorem uE10 (vs : List Value) (life : Int) (w0 w1 w2 w3 w4 w5 w6 w7 w8 w9 : Int) (B : List Value → AH → Prop) (Q : AExit → List Value → AH → Prop) : once 0 Tryz.prog SU2 [] noHooks 600 152 [0, 2, 9, 14, 15] [] [14] [] (oneLoop (codeOf Tryz.f7) 21) (uv vs life [w0, w1, w2, w3, w4, w5, w6, w7, w8, w9] nilV 9) h0 B Q = Q (.exit 4) [nilV] h0 := by kernel_rfl
theorem un11 (vs : List Value) (life : Int) (w0 w1 w2 w3 w4 w5 w6 w7 w8 w9 w10 : Int) (B : List Value → AH → Prop) (Q : AExit → List Value → AH → Prop) : ∀ i : Nat, i < 10 → once 0 Tryz.prog SU2 [] noHooks 600 152 [0, 2, 9, 14, 15] [] [14] [] (oneLoop (codeOf Tryz.f7) 21) (uv vs life [w0, w1, w2, w3, w4, w5, w6, w7, w8, w9, w10] nilV (i : Int)) h0 B Q =
    bif okSa vs (List.getD [w0, w1, w2, w3, w4, w5, w6, w7, w8, w9, w10] i 0) then bif decide ((saW vs (List.getD [w0, w1, w2, w3, w4, w5, w6, w7, w8, w9, w10] i 0)).un ≥ IntKind.i64.wrap (List.getD [w0, w1, w2, w3, w4, w5, w6, w7, w8, w9, w10] i 0 + life)) then B (uv vs life [w0, w1, w2, w3, w4, w5, w6, w7, w8, w9, w10] nilV ((i + 1 : Nat) : Int)) h0
      else B (uv vs life [w0, w1, w2, w3, w4, w5, w6, w7, w8, w9, w10] (.slice (some ⟨0, 0, none⟩) 1 1) ((i + 1 : Nat) : Int)) ⟨1, 1, [(0, .cells ⟨[.int .i64 (List.getD [w0, w1, w2, w3, w4, w5, w6, w7, w8, w9, w10] i 0), .int .i64 (List.getD [w0, w1, w2, w3, w4, w5, w6, w7, w8, w9, w10] (i + 1) 0)]⟩ 40 (0, 0))]⟩ else False
  | 0, _ => by kernel_rfl
  | 1, _ => by kernel_rfl
  | 2, _ => by kernel_rfl
  | 3, _ => by kernel_rfl
  | 4, _ => by kernel_rfl
  | 5, _ => by kernel_rfl
  | 6, _ => by kernel_rfl
  | 7, _ => by kernel_rfl
  | 8, _ => by kernel_rfl
  | 9, _ => by kernel_rfl
  | i + 10, h => absurd h (by omega)
theorem uE11 (vs : List Value) (life : Int) (w0 w1 w2 w3 w4 w5 w6 w7 w8 w9 w10 : Int) (B : List Value → AH → Prop) (Q : AExit → List Value → AH → Prop) : once 0 Tryz.prog SU2 [] noHooks 600 152 [0, 2, 9, 14, 15] [] [14] [] (oneLoop (codeOf Tryz.f7) 21) (uv vs life [w0, w1, w2, w3, w4, w5, w6, w7, w8, w9, w10] nilV 10) h0 B Q = Q (.exit 4) [nilV] h0 := by kernel_rfl
theorem un12 (vs : List Value) (life : Int) (w0 w1 w2 w3 w4 w5 w6 w7 w8 w9 w10 w11 : Int) (B : List Value → AH → Prop) (Q : AExit → List Value → AH → Prop) : ∀ i : Nat, i < 11 → once 0 Tryz.prog SU2 [] noHooks 600 152 [0, 2, 9, 14, 15] [] [14] [] (oneLoop (codeOf Tryz.f7) 21) (uv vs life [w0, w1, w2, w3, w4, w5, w6, w7, w8, w9, w10, w11] nilV (i : Int)) h0 B Q =
    bif okSa vs (List.getD [w0, w1, w2, w3, w4, w5, w6, w7, w8, w9, w10, w11] i 0) then bif decide ((saW vs (List.getD [w0, w1, w2, w3, w4, w5, w6, w7, w8, w9, w10, w11] i 0)).un ≥ IntKind.i64.wrap (List.getD [w0, w1, w2, w3, w4, w5, w6, w7, w8, w9, w10, w11] i 0 + life)) then B (uv vs life [w0, w1, w2, w3, w4, w5, w6, w7, w8, w9, w10, w11] nilV ((i + 1 : Nat) : Int)) h0
      else B (uv vs life [w0, w1, w2, w3, w4, w5, w6, w7, w8, w9, w10, w11] (.slice (some ⟨0, 0, none⟩) 1 1) ((i + 1 : Nat) : Int)) ⟨1, 1, [(0, .cells ⟨[.int .i64 (List.getD [w0, w1, w2, w3, w4, w5, w6, w7, w8, w9, w10, w11] i 0), .int .i64 (List.getD [w0, w1, w2, w3, w4, w5, w6, w7, w8, w9, w10, w11] (i + 1) 0)]⟩ 40 (0, 0))]⟩ else False
  | 0, _ => by kernel_rfl
  | 1, _ => by kernel_rfl
  | 2, _ => by kernel_rfl
  | 3, _ => by kernel_rfl
  | 4, _ => by kernel_rfl
  | 5, _ => by kernel_rfl
  | 6, _ => by kernel_rfl
  | 7, _ => by kernel_rfl
  | 8, _ => by kernel_rfl
  | 9, _ => by kernel_rfl
  | 10, _ => by kernel_rfl
  | i + 11, h => absurd h (by omega)
theorem uE12 (vs : List Value) (life : Int) (w0 w1 w2 w3 w4 w5 w6 w7 w8 w9 w10 w11 : Int) (B : List Value → AH → Prop) (Q : AExit → List Value → AH → Prop) : once 0 Tryz.prog SU2 [] noHooks 600 152 [0, 2, 9, 14, 15] [] [14] [] (oneLoop (codeOf Tryz.f7) 21) (uv vs life [w0, w1, w2, w3, w4, w5, w6, w7, w8, w9, w10, w11] nilV 11) h0 B Q = Q (.exit 4) [nilV] h0 := by kernel_rfl
theorem un13 (vs : List Value) (life : Int) (w0 w1 w2 w3 w4 w5 w6 w7 w8 w9 w10 w11 w12 : Int) (B : List Value → AH → Prop) (Q : AExit → List Value → AH → Prop) : ∀ i : Nat, i < 12 → once 0 Tryz.prog SU2 [] noHooks 600 152 [0, 2, 9, 14, 15] [] [14] [] (oneLoop (codeOf Tryz.f7) 21) (uv vs life [w0, w1, w2, w3, w4, w5, w6, w7, w8, w9, w10, w11, w12] nilV (i : Int)) h0 B Q =
    bif okSa vs (List.getD [w0, w1, w2, w3, w4, w5, w6, w7, w8, w9, w10, w11, w12] i 0) then bif decide ((saW vs (List.getD [w0, w1, w2, w3, w4, w5, w6, w7, w8, w9, w10, w11, w12] i 0)).un ≥ IntKind.i64.wrap (List.getD [w0, w1, w2, w3, w4, w5, w6, w7, w8, w9, w10, w11, w12] i 0 + life)) then B (uv vs life [w0, w1, w2, w3, w4, w5, w6, w7, w8, w9, w10, w11, w12] nilV ((i + 1 : Nat) : Int)) h0
      else B (uv vs life [w0, w1, w2, w3, w4, w5, w6, w7, w8, w9, w10, w11, w12] (.slice (some ⟨0, 0, none⟩) 1 1) ((i + 1 : Nat) : Int)) ⟨1, 1, [(0, .cells ⟨[.int .i64 (List.getD [w0, w1, w2, w3, w4, w5, w6, w7, w8, w9, w10, w11, w12] i 0), .int .i64 (List.getD [w0, w1, w2, w3, w4, w5, w6, w7, w8, w9, w10, w11, w12] (i + 1) 0)]⟩ 40 (0, 0))]⟩ else False
  | 0, _ => by kernel_rfl
  | 1, _ => by kernel_rfl
  | 2, _ => by kernel_rfl
  | 3, _ => by kernel_rfl
  | 4, _ => by kernel_rfl
  | 5, _ => by kernel_rfl
  | 6, _ => by kernel_rfl
  | 7, _ => by kernel_rfl
  | 8, _ => by kernel_rfl
  | 9, _ => by kernel_rfl
  | 10, _ => by kernel_rfl
  | 11, _ => by kernel_rfl
  | i + 12, h => absurd h (by omega)
theorem uE13 (vs : List Value) (life : Int) (w0 w1 w2 w3 w4 w5 w6 w7 w8 w9 w10 w11 w12 : Int) (B : List Value → AH → Prop) (Q : AExit → List Value → AH → Prop) : once 0 Tryz.prog SU2 [] noHooks 600 152 [0, 2, 9, 14, 15] [] [14] [] (oneLoop (codeOf Tryz.f7) 21) (uv vs life [w0, w1, w2, w3, w4, w5, w6, w7, w8, w9, w10, w11, w12] nilV 12) h0 B Q = Q (.exit 4) [nilV] h0 := by kernel_rfl
theorem un14 (vs : List Value) (life : Int) (w0 w1 w2 w3 w4 w5 w6 w7 w8 w9 w10 w11 w12 w13 : Int) (B : List Value → AH → Prop) (Q : AExit → List Value → AH → Prop) : ∀ i : Nat, i < 13 → once 0 Tryz.prog SU2 [] noHooks 600 152 [0, 2, 9, 14, 15] [] [14] [] (oneLoop (codeOf Tryz.f7) 21) (uv vs life [w0, w1, w2, w3, w4, w5, w6, w7, w8, w9, w10, w11, w12, w13] nilV (i : Int)) h0 B Q =
    bif okSa vs (List.getD [w0, w1, w2, w3, w4, w5, w6, w7, w8, w9, w10, w11, w12, w13] i 0) then bif decide ((saW vs (List.getD [w0, w1, w2, w3, w4, w5, w6, w7, w8, w9, w10, w11, w12, w13] i 0)).un ≥ IntKind.i64.wrap (List.getD [w0, w1, w2, w3, w4, w5, w6, w7, w8, w9, w10, w11, w12, w13] i 0 + life)) then B (uv vs life [w0, w1, w2, w3, w4, w5, w6, w7, w8, w9, w10, w11, w12, w13] nilV ((i + 1 : Nat) : Int)) h0
      else B (uv vs life [w0, w1, w2, w3, w4, w5, w6, w7, w8, w9, w10, w11, w12, w13] (.slice (some ⟨0, 0, none⟩) 1 1) ((i + 1 : Nat) : Int)) ⟨1, 1, [(0, .cells ⟨[.int .i64 (List.getD [w0, w1, w2, w3, w4, w5, w6, w7, w8, w9, w10, w11, w12, w13] i 0), .int .i64 (List.getD [w0, w1, w2, w3, w4, w5, w6, w7, w8, w9, w10, w11, w12, w13] (i + 1) 0)]⟩ 40 (0, 0))]⟩ else False
  | 0, _ => by kernel_rfl
  | 1, _ => by kernel_rfl
  | 2, _ => by kernel_rfl
  | 3, _ => by kernel_rfl
  | 4, _ => by kernel_rfl
  | 5, _ => by kernel_rfl
  | 6, _ => by kernel_rfl
  | 7, _ => by kernel_rfl
  | 8, _ => by kernel_rfl
  | 9, _ => by kernel_rfl
  | 10, _ => by kernel_rfl
  | 11, _ => by kernel_rfl
  | 12, _ => by kernel_rfl
  | i + 13, h => absurd h (by omega)
theorem uE14 (vs : List Value) (life : Int) (w0 w1 w2 w3 w4 w5 w6 w7 w8 w9 w10 w11 w12 w13 : Int) (B : List Value → AH → Prop) (Q : AExit → List Value → AH → Prop) : once 0 Tryz.prog SU2 [] noHooks 600 152 [0, 2, 9, 14, 15] [] [14] [] (oneLoop (codeOf Tryz.f7) 21) (uv vs life [w0, w1, w2, w3, w4, w5, w6, w7, w8, w9, w10, w11, w12, w13] nilV 13) h0 B Q = Q (.exit 4) [nilV] h0 := by kernel_rfl
end Go.Proofs.YtfgjopjjajglhaaGreatDoor
