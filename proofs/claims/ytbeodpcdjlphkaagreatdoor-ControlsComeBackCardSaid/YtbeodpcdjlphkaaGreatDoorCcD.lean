/-
  What headers say about caches: 'Text'.
-/
import Derived.Test.YtbeodpcdjlphkaaGreatDoorCcT
namespace Go.Proofs.YtbeodpcdjlphkaaGreatDoor
open Go.Ev Go.RowKit CtrlLaw

noncomputable def SD1 : SC := ⟨idn, spIt, true, true⟩
noncomputable def SD2 : SC := ⟨idn, spJn, true, true⟩
theorem SD1_ok : SD1.cfg.OK Tryz.prog := spIt_ok.cfg
theorem SD2_ok : SD2.cfg.OK Tryz.prog := spJn_ok.cfg
def ptF : List Value := [.pointer (some ⟨0, 0, none⟩), .pointer (some ⟨0, 1, none⟩), .pointer (some ⟨0, 2, none⟩), .pointer (some ⟨0, 3, none⟩), .pointer (some ⟨0, 4, none⟩), .pointer (some ⟨0, 5, none⟩)]
def ptM : List Value := [.pointer (some ⟨0, 6, none⟩), .pointer (some ⟨0, 7, none⟩), .pointer (some ⟨0, 8, none⟩), .pointer (some ⟨0, 9, none⟩), .pointer (some ⟨0, 10, none⟩), .pointer (some ⟨0, 11, none⟩)]
def nmF : List Value := [strV (flagS 0), strV (flagS 1), strV (flagS 2), strV (flagS 3), strV (flagS 4), strV (flagS 5)]
def nmM : List Value := [strV (numS 0), strV (numS 1), strV (numS 2), strV (numS 3), strV (numS 4), strV (numS 5)]
def t1N (c : Ct) : AH := ⟨3, 3, [(0, .cells ⟨ctC c⟩ 55 (0, 0)), (1, .cells ⟨ptF⟩ 92 (0, 0)), (2, .cells ⟨nmF⟩ 9 (0, 0))]⟩
def t1B (c : Ct) (cs : List Value) : AH := ⟨4, 4, [(0, .cells ⟨ctC c⟩ 55 (0, 0)), (1, .cells ⟨ptF⟩ 92 (0, 0)), (2, .cells ⟨nmF⟩ 9 (0, 0)), (3, .cells ⟨cs⟩ 9 (0, 0))]⟩
def t2N (c : Ct) : AH := ⟨3, 3, [(0, .cells ⟨ctC c⟩ 55 (0, 0)), (1, .cells ⟨ptM⟩ 97 (0, 0)), (2, .cells ⟨nmM⟩ 9 (0, 0))]⟩
def t2B (c : Ct) (cs : List Value) : AH := ⟨4, 4, [(0, .cells ⟨ctC c⟩ 55 (0, 0)), (1, .cells ⟨ptM⟩ 97 (0, 0)), (2, .cells ⟨nmM⟩ 9 (0, 0)), (3, .cells ⟨cs⟩ 9 (0, 0))]⟩
def x1N (c : Ct) : AH := ⟨1, 1, [(0, .cells ⟨ctC c⟩ 55 (0, 0))]⟩
def x1B (c : Ct) (cs : List Value) : AH := ⟨2, 2, [(0, .cells ⟨ctC c⟩ 55 (0, 0)), (1, .cells ⟨cs⟩ 9 (0, 0))]⟩
def tv (out : Value) (i : Int) : List Value := [.pointer (some ⟨0, 0, none⟩), .slice (some ⟨1, 0, none⟩) 6 6, .slice (some ⟨2, 0, none⟩) 6 6, .int .i64 6, .int .i64 i, out]
def fb (c : Ct) : Nat → Bool
  | 0 => c.b0
  | 1 => c.b1
  | 2 => c.b2
  | 3 => c.b3
  | 4 => c.b4
  | _ => c.b5
def nb (c : Ct) : Nat → Int
  | 0 => c.n0
  | 1 => c.n1
  | 2 => c.n2
  | 3 => c.n3
  | 4 => c.n4
  | _ => c.n5
theorem r1N (c : Ct) (B : List Value → AH → Prop) (Q : AExit → List Value → AH → Prop) : ∀ i : Nat, i < 6 → once 0 Tryz.prog SD1 [] noHooks 600 75 [1, 6, 16, 17, 18, 4] [3] [1, 4] [1] (oneLoop (codeOf Tryz.f19) 4) (tv nilV (i : Int)) (t1N c) B Q =
    bif fb c i then NoNames (.cells ⟨[strV (flagS i)]⟩ 9 (0, 0)) ∧ B (tv (.slice (some ⟨3, 0, none⟩) 1 1) ((i + 1 : Nat) : Int)) (t1B c [strV (flagS i)]) else B (tv nilV ((i + 1 : Nat) : Int)) (t1N c)
  | 0, _ => by kernel_rfl
  | 1, _ => by kernel_rfl
  | 2, _ => by kernel_rfl
  | 3, _ => by kernel_rfl
  | 4, _ => by kernel_rfl
  | 5, _ => by kernel_rfl
  | i + 6, h => absurd h (by omega)
theorem r1B (c : Ct) (cs : List Value) (k : Nat) (B : List Value → AH → Prop) (Q : AExit → List Value → AH → Prop) : ∀ i : Nat, i < 6 → once 0 Tryz.prog SD1 [] noHooks 600 75 [1, 6, 16, 17, 18, 4] [3] [1, 4] [1] (oneLoop (codeOf Tryz.f19) 4) (tv (.slice (some ⟨3, 0, none⟩) k k) (i : Int)) (t1B c cs) B Q =
    bif fb c i then bif (k + 1).ble k then False else bif (k + 1).ble 9223372036854775807 && ((k + 1) * 16).ble 140737488355328 then bif (0 + k * 1).ble (Array.mk cs).size && true && true then
          NoNames (.cells ⟨List.take (k * 1) (List.drop 0 (Array.mk cs).toList) ++ [strV (flagS i)]⟩ 9 (0, 0)) ∧ B (tv (.slice (some ⟨3, 0, none⟩) (k + 1) (k + 1)) ((i + 1 : Nat) : Int)) (t1B c (List.take (k * 1) (List.drop 0 (Array.mk cs).toList) ++ [strV (flagS i)])) else False else False
      else NoNames (.cells ⟨cs⟩ 9 (0, 0)) ∧ B (tv (.slice (some ⟨3, 0, none⟩) k k) ((i + 1 : Nat) : Int)) (t1B c cs)
  | 0, _ => by kernel_rfl
  | 1, _ => by kernel_rfl
  | 2, _ => by kernel_rfl
  | 3, _ => by kernel_rfl
  | 4, _ => by kernel_rfl
  | 5, _ => by kernel_rfl
  | i + 6, h => absurd h (by omega)
theorem r1Nx (c : Ct) (B : List Value → AH → Prop) (Q : AExit → List Value → AH → Prop) : once 0 Tryz.prog SD1 [] noHooks 600 75 [1, 6, 16, 17, 18, 4] [3] [1, 4] [1] (oneLoop (codeOf Tryz.f19) 4) (tv nilV 6) (t1N c) B Q = Q (.exit 0) [.pointer (some ⟨0, 0, none⟩), nilV] (x1N c) := by kernel_rfl
theorem r1Bx (c : Ct) (cs : List Value) (k : Nat) (B : List Value → AH → Prop) (Q : AExit → List Value → AH → Prop) : once 0 Tryz.prog SD1 [] noHooks 600 75 [1, 6, 16, 17, 18, 4] [3] [1, 4] [1] (oneLoop (codeOf Tryz.f19) 4) (tv (.slice (some ⟨3, 0, none⟩) k k) 6) (t1B c cs) B Q =
    (NoNames (.cells ⟨cs⟩ 9 (0, 0)) ∧ Q (.exit 0) [.pointer (some ⟨0, 0, none⟩), .slice (some ⟨1, 0, none⟩) k k] (x1B c cs)) := by kernel_rfl
def nmE (n : Int) (i : Nat) : Value := .string (bl (numS i) ++ ⟨#[61]⟩ ++ bl (Lib.decDigits n.toNat))
theorem r2N (c : Ct) (B : List Value → AH → Prop) (Q : AExit → List Value → AH → Prop) : ∀ i : Nat, i < 6 → once 0 Tryz.prog SD1 [] noHooks 600 75 [1, 9, 38, 39, 40, 4] [3] [2, 3, 4] [0] (oneLoop (codeOf Tryz.f19) 11) (tv nilV (i : Int)) (t2N c) B Q =
    bif decide (nb c i < -1) then Q .ret [.string ⟨#[]⟩, .int .i64 1, nilV] h0 else bif decide (nb c i > 100000000) then Q .ret [.string ⟨#[]⟩, .int .i64 1, nilV] h0 else
    bif nb c i != -1 then bif decide (0 ≤ nb c i) && decide (nb c i < 100) then bif ((bl (numS i) ++ ⟨#[61]⟩).size + (bl (Lib.decDigits (nb c i).toNat)).size).ble 1000000 then
      NoNames (.cells ⟨[nmE (nb c i) i]⟩ 9 (0, 0)) ∧ B (tv (.slice (some ⟨3, 0, none⟩) 1 1) ((i + 1 : Nat) : Int)) (t2B c [nmE (nb c i) i]) else False else False else B (tv nilV ((i + 1 : Nat) : Int)) (t2N c)
  | 0, _ => by kernel_rfl
  | 1, _ => by kernel_rfl
  | 2, _ => by kernel_rfl
  | 3, _ => by kernel_rfl
  | 4, _ => by kernel_rfl
  | 5, _ => by kernel_rfl
  | i + 6, h => absurd h (by omega)
theorem r2B (c : Ct) (cs : List Value) (k : Nat) (B : List Value → AH → Prop) (Q : AExit → List Value → AH → Prop) : ∀ i : Nat, i < 6 → once 0 Tryz.prog SD1 [] noHooks 600 75 [1, 9, 38, 39, 40, 4] [3] [2, 3, 4] [0] (oneLoop (codeOf Tryz.f19) 11) (tv (.slice (some ⟨3, 0, none⟩) k k) (i : Int)) (t2B c cs) B Q =
    bif decide (nb c i < -1) then NoNames (.cells ⟨cs⟩ 9 (0, 0)) ∧ Q .ret [.string ⟨#[]⟩, .int .i64 1, .slice (some ⟨0, 0, none⟩) k k] (gH cs) else bif decide (nb c i > 100000000) then NoNames (.cells ⟨cs⟩ 9 (0, 0)) ∧ Q .ret [.string ⟨#[]⟩, .int .i64 1, .slice (some ⟨0, 0, none⟩) k k] (gH cs) else
    bif nb c i != -1 then bif decide (0 ≤ nb c i) && decide (nb c i < 100) then bif ((bl (numS i) ++ ⟨#[61]⟩).size + (bl (Lib.decDigits (nb c i).toNat)).size).ble 1000000 then
      bif (k + 1).ble k then False else bif (k + 1).ble 9223372036854775807 && ((k + 1) * 16).ble 140737488355328 then bif (0 + k * 1).ble (Array.mk cs).size && true && true then
          NoNames (.cells ⟨List.take (k * 1) (List.drop 0 (Array.mk cs).toList) ++ [nmE (nb c i) i]⟩ 9 (0, 0)) ∧ B (tv (.slice (some ⟨3, 0, none⟩) (k + 1) (k + 1)) ((i + 1 : Nat) : Int)) (t2B c (List.take (k * 1) (List.drop 0 (Array.mk cs).toList) ++ [nmE (nb c i) i])) else False else False
      else False else False else NoNames (.cells ⟨cs⟩ 9 (0, 0)) ∧ B (tv (.slice (some ⟨3, 0, none⟩) k k) ((i + 1 : Nat) : Int)) (t2B c cs)
  | 0, _ => by kernel_rfl
  | 1, _ => by kernel_rfl
  | 2, _ => by kernel_rfl
  | 3, _ => by kernel_rfl
  | 4, _ => by kernel_rfl
  | 5, _ => by kernel_rfl
  | i + 6, h => absurd h (by omega)
theorem r2Nx (c : Ct) (B : List Value → AH → Prop) (Q : AExit → List Value → AH → Prop) : once 0 Tryz.prog SD1 [] noHooks 600 75 [1, 9, 38, 39, 40, 4] [3] [2, 3, 4] [0] (oneLoop (codeOf Tryz.f19) 11) (tv nilV 6) (t2N c) B Q = Q (.exit 2) [anyV, anyV, nilV] h0 := by kernel_rfl
theorem r2Bx (c : Ct) (cs : List Value) (k : Nat) (B : List Value → AH → Prop) (Q : AExit → List Value → AH → Prop) : once 0 Tryz.prog SD1 [] noHooks 600 75 [1, 9, 38, 39, 40, 4] [3] [2, 3, 4] [0] (oneLoop (codeOf Tryz.f19) 11) (tv (.slice (some ⟨3, 0, none⟩) k k) 6) (t2B c cs) B Q =
    (NoNames (.cells ⟨cs⟩ 9 (0, 0)) ∧ Q (.exit 2) [anyV, anyV, .slice (some ⟨0, 0, none⟩) k k] (gH cs)) := by kernel_rfl
theorem txNN (c : Ct) (cs ds : List Value) (k m : Nat) (C D : List Value → AH → Prop) (Q : Value → Prop) :
    tfn Tryz.prog SD2 [] (hookOr (hook1 4 (hookLS 0 75 [1, 6, 16, 17, 18, 4] [3] [1, 4] (fun vals h K => C vals h ∧ K (.exit 0) [.pointer (some ⟨0, 0, none⟩), nilV] (x1N c)))) (hook1 11 (thenLS (hookLS 0 75 [1, 9, 38, 39, 40, 4] [3] [2, 3, 4] (fun vals h K => D vals h ∧ K (.exit 2) [anyV, anyV, nilV] h0)) (freezeG 75 false 1 [4])))) 600 [] Tryz.f19 [.agg ⟨ctC c⟩] h0 (fun v _ => Q v) =
      (C (tv nilV 0) (t1N c) ∧ D (tv nilV 0) (t2N c) ∧ Q (.tuple ⟨[.string (bl (Lib.join ((strsOf []).map (·.data.toList)) [44, 32])), .int .i64 0]⟩)) := by kernel_rfl
theorem txNB (c : Ct) (cs ds : List Value) (k m : Nat) (C D : List Value → AH → Prop) (Q : Value → Prop) :
    tfn Tryz.prog SD2 [] (hookOr (hook1 4 (hookLS 0 75 [1, 6, 16, 17, 18, 4] [3] [1, 4] (fun vals h K => C vals h ∧ K (.exit 0) [.pointer (some ⟨0, 0, none⟩), nilV] (x1N c)))) (hook1 11 (thenLS (hookLS 0 75 [1, 9, 38, 39, 40, 4] [3] [2, 3, 4] (fun vals h K => D vals h ∧ K (.exit 2) [anyV, anyV, .slice (some ⟨0, 0, none⟩) m m] (gH ds))) (freezeG 75 false 1 [4])))) 600 [] Tryz.f19 [.agg ⟨ctC c⟩] h0 (fun v _ => Q v) =
      (C (tv nilV 0) (t1N c) ∧ D (tv nilV 0) (t2N c) ∧ bif ((Nat.beq m m && Nat.beq m m) && true) && ds.all p1 && m.ble m && (m * 1).ble ds.length && true then bif okJ (chunk false 1 m ds) ⟨#[44, 32]⟩ then Q (.tuple ⟨[.string (bl (Lib.join ((strsOf (chunk false 1 m ds)).map (·.data.toList)) [44, 32])), .int .i64 0]⟩) else False else False) := by kernel_rfl
theorem txBB (c : Ct) (cs ds : List Value) (k m : Nat) (C D : List Value → AH → Prop) (Q : Value → Prop) :
    tfn Tryz.prog SD2 [] (hookOr (hook1 4 (hookLS 0 75 [1, 6, 16, 17, 18, 4] [3] [1, 4] (fun vals h K => C vals h ∧ K (.exit 0) [.pointer (some ⟨0, 0, none⟩), .slice (some ⟨1, 0, none⟩) k k] (x1B c cs)))) (hook1 11 (thenLS (hookLS 0 75 [1, 9, 38, 39, 40, 4] [3] [2, 3, 4] (fun vals h K => D vals h ∧ K (.exit 2) [anyV, anyV, .slice (some ⟨0, 0, none⟩) m m] (gH ds))) (freezeG 75 false 1 [4])))) 600 [] Tryz.f19 [.agg ⟨ctC c⟩] h0 (fun v _ => Q v) =
      (C (tv nilV 0) (t1N c) ∧ NoNames (.cells ⟨cs⟩ 9 (0, 0)) ∧ D (tv (.slice (some ⟨3, 0, none⟩) k k) 0) (t2B c cs) ∧ bif ((Nat.beq m m && Nat.beq m m) && true) && ds.all p1 && m.ble m && (m * 1).ble ds.length && true then bif okJ (chunk false 1 m ds) ⟨#[44, 32]⟩ then Q (.tuple ⟨[.string (bl (Lib.join ((strsOf (chunk false 1 m ds)).map (·.data.toList)) [44, 32])), .int .i64 0]⟩) else False else False) := by kernel_rfl

def outT (b : Nat) : List (List UInt8) → Value
  | [] => nilV
  | t :: l => .slice (some ⟨b, 0, none⟩) (t :: l).length (t :: l).length
def h1T (c : Ct) : List (List UInt8) → AH
  | [] => t1N c
  | t :: l => t1B c ((t :: l).map strV)
def h2T (c : Ct) : List (List UInt8) → AH
  | [] => t2N c
  | t :: l => t2B c ((t :: l).map strV)
def x1T (c : Ct) : List (List UInt8) → AH
  | [] => x1N c
  | t :: l => x1B c ((t :: l).map strV)
def x2T : List (List UInt8) → AH
  | [] => h0
  | t :: l => gH ((t :: l).map strV)
theorem fl_take (t : List UInt8) (l : List (List UInt8)) : List.take ((t :: l).length * 1) (List.drop 0 (Array.mk ((t :: l).map strV)).toList) = (t :: l).map strV := by
  rw [List.drop_zero, Nat.mul_one]
  exact List.take_of_length_le (by show ((t :: l).map strV).length ≤ _; rw [List.length_map]; exact Nat.le_refl _)
theorem fl_ble (t : List UInt8) (l : List (List UInt8)) : ((0 + (t :: l).length * 1).ble (Array.mk ((t :: l).map strV)).size && true && true) = true := by
  have : (0 + (t :: l).length * 1).ble (Array.mk ((t :: l).map strV)).size = true := by
    rw [Nat.ble_eq]
    show 0 + (t :: l).length * 1 ≤ ((t :: l).map strV).length
    rw [List.length_map]; omega
  rw [this]; rfl
theorem fl_big {k : Nat} (h : k ≤ 1000) : ((k + 1).ble 9223372036854775807 && ((k + 1) * 16).ble 140737488355328) = true := by
  rw [Bool.and_eq_true, Nat.ble_eq, Nat.ble_eq]; omega
/-- The flags from one on. -/
def restF (c : Ct) : Nat → List Part
  | 0 => []
  | r + 1 => fq (5 - r) (fb c (5 - r)) ++ restF c r
def restN (c : Ct) : Nat → List Part
  | 0 => []
  | r + 1 => nq (5 - r) (nb c (5 - r)) ++ restN c r
theorem loop1 (c : Ct) (K : AExit → List Value → AH → Prop) : ∀ (r i : Nat) (O : List (List UInt8)), i + r = 6 → O.length ≤ i →
    K (.exit 0) [.pointer (some ⟨0, 0, none⟩), outT 1 (O ++ (restF c r).map strP)] (x1T c (O ++ (restF c r).map strP)) → iter 0 Tryz.prog SD1 [] noHooks 600 75 [1, 6, 16, 17, 18, 4] [3] [1, 4] [1] (oneLoop (codeOf Tryz.f19) 4) (r + 1) (tv (outT 3 O) (i : Int)) (h1T c O) K := by
  intro r
  induction r with
  | zero =>
    intro i O h1 h2 hK
    have hi : i = 6 := by omega
    subst hi
    simp only [restF, List.map_nil, List.append_nil] at hK
    cases O with
    | nil => exact (r1Nx c _ K).mpr hK
    | cons t l => exact (r1Bx c _ _ _ K).mpr ⟨nnS (t :: l) _ _, hK⟩
  | succ r ih =>
    intro i O h1 h2 hK
    have hi : i < 6 := by omega
    have h5 : 5 - r = i := by omega
    rw [restF, h5, List.map_append] at hK
    have next : ∀ O2 : List (List UInt8), O2.length ≤ i + 1 → O ++ ((fq i (fb c i)).map strP ++ (restF c r).map strP) = O2 ++ (restF c r).map strP → iter 0 Tryz.prog SD1 [] noHooks 600 75 [1, 6, 16, 17, 18, 4] [3] [1, 4] [1] (oneLoop (codeOf Tryz.f19) 4) (r + 1) (tv (outT 3 O2) ((i + 1 : Nat) : Int)) (h1T c O2) K := by
      intro O2 g1 g2
      rw [g2] at hK
      exact ih (i + 1) O2 (by omega) g1 hK
    cases O with
    | nil =>
      refine (r1N c _ K i hi).mpr ?_
      cases hf : fb c i with
      | true => exact ⟨nnS [flagS i] _ _, next [flagS i] (by simp) (by rw [hf]; rfl)⟩
      | false => exact next [] (by simp) (by rw [hf]; rfl)
    | cons t l =>
      refine (r1B c _ _ _ K i hi).mpr ?_
      cases hf : fb c i with
      | true =>
        refine pick_t rfl (pick_f (ble_ss _) (need_mk (fl_big (by omega)) (need_mk (fl_ble t l) ?_)))
        have e1 : (t :: l).map strV ++ [strV (flagS i)] = ((t :: l) ++ [flagS i]).map strV := by rw [List.map_append]; rfl
        rw [fl_take, e1]
        have := next ((t :: l) ++ [flagS i]) (by simp at h2 ⊢; omega) (by rw [hf, List.append_assoc]; rfl)
        have e3 : outT 3 ((t :: l) ++ [flagS i]) = .slice (some ⟨3, 0, none⟩) ((t :: l).length + 1) ((t :: l).length + 1) := by
          show Value.slice (some ⟨3, 0, none⟩) ((t :: l) ++ [flagS i]).length ((t :: l) ++ [flagS i]).length = _
          rw [List.length_append]; rfl
        rw [e3] at this
        exact ⟨nnS _ _ _, this⟩
      | false => exact pick_f rfl ⟨nnS (t :: l) _ _, next (t :: l) (by omega) (by rw [hf]; rfl)⟩
theorem dec_S {v : Nat} (h : v < 100) : Lib.decDigits v = decS v := by
  unfold decS
  by_cases q : v < 10
  · rw [Lib.decDigits, dif_pos q, if_pos q]
  · rw [Lib.decDigits, dif_neg q, Lib.decDigits, dif_pos (by omega), if_neg q]; rfl
theorem bl_app (a b : List UInt8) : bl a ++ bl b = bl (a ++ b) := by
  rw [← bl_self (bl a ++ bl b)]
  congr 1
theorem nmE_eq {n : Int} (h0 : 0 ≤ n) (h1 : n < 100) (i : Nat) : nmE n i = strV (strP (.num i n.toNat)) := by
  unfold nmE strV
  rw [dec_S (by omega), show (⟨#[61]⟩ : ByteArray) = bl [61] from rfl, bl_app, bl_app]
  show Value.string (bl (numS i ++ [61] ++ decS n.toNat)) = Value.string (bl (numS i ++ 61 :: decS n.toNat))
  rw [List.append_assoc]
  rfl
theorem nm_len (i : Nat) (hi : i < 6) : (numS i).length ≤ 30 := by
  match i, hi with
  | 0, _ => exact (by decide)
  | 1, _ => exact (by decide)
  | 2, _ => exact (by decide)
  | 3, _ => exact (by decide)
  | 4, _ => exact (by decide)
  | 5, _ => exact (by decide)
  | i + 6, h => omega
theorem nmS_size {n : Int} (h0 : 0 ≤ n) (h1 : n < 100) (i : Nat) (hi : i < 6) : ((bl (numS i) ++ ⟨#[61]⟩).size + (bl (Lib.decDigits n.toNat)).size).ble 1000000 = true := by
  have h2 : (decS n.toNat).length ≤ 2 := by unfold decS; split <;> simp
  have h3 := nm_len i hi
  rw [dec_S (by omega), show (⟨#[61]⟩ : ByteArray) = bl [61] from rfl, bl_app, bl_size, bl_size, Nat.ble_eq, List.length_append]
  simp only [List.length_cons, List.length_nil]
  omega
theorem loop2 {c : Ct} (hc : ∀ i, i < 6 → -1 ≤ nb c i ∧ nb c i < 100) (K : AExit → List Value → AH → Prop) : ∀ (r i : Nat) (O : List (List UInt8)), i + r = 6 → O.length ≤ i + 6 →
    K (.exit 2) [anyV, anyV, outT 0 (O ++ (restN c r).map strP)] (x2T (O ++ (restN c r).map strP)) → iter 0 Tryz.prog SD1 [] noHooks 600 75 [1, 9, 38, 39, 40, 4] [3] [2, 3, 4] [0] (oneLoop (codeOf Tryz.f19) 11) (r + 1) (tv (outT 3 O) (i : Int)) (h2T c O) K := by
  intro r
  induction r with
  | zero =>
    intro i O h1 h2 hK
    have hi : i = 6 := by omega
    subst hi
    simp only [restN, List.map_nil, List.append_nil] at hK
    cases O with
    | nil => exact (r2Nx c _ K).mpr hK
    | cons t l => exact (r2Bx c _ _ _ K).mpr ⟨nnS (t :: l) _ _, hK⟩
  | succ r ih =>
    intro i O h1 h2 hK
    have hi : i < 6 := by omega
    have h5 : 5 - r = i := by omega
    obtain ⟨g1, g2⟩ := hc i hi
    rw [restN, h5, List.map_append] at hK
    have next : ∀ O2 : List (List UInt8), O2.length ≤ i + 1 + 6 → O ++ ((nq i (nb c i)).map strP ++ (restN c r).map strP) = O2 ++ (restN c r).map strP → iter 0 Tryz.prog SD1 [] noHooks 600 75 [1, 9, 38, 39, 40, 4] [3] [2, 3, 4] [0] (oneLoop (codeOf Tryz.f19) 11) (r + 1) (tv (outT 3 O2) ((i + 1 : Nat) : Int)) (h2T c O2) K := by
      intro O2 g1 g2
      rw [g2] at hK
      exact ih (i + 1) O2 (by omega) g1 hK
    by_cases hn : nb c i = -1
    · have hq : nq i (nb c i) = [] := by unfold nq; rw [if_pos hn]
      have hne : (nb c i != -1) = false := by rw [hn]; rfl
      cases O with
      | nil => exact (r2N c _ K i hi).mpr (pick_f (decide_eq_false (by omega)) (pick_f (decide_eq_false (by omega)) (pick_f hne (next [] (by simp) (by rw [hq]; rfl)))))
      | cons t l => exact (r2B c _ _ _ K i hi).mpr (pick_f (decide_eq_false (by omega)) (pick_f (decide_eq_false (by omega)) (pick_f hne ⟨nnS (t :: l) _ _, next (t :: l) (by omega) (by rw [hq]; rfl)⟩)))
    · have hq : nq i (nb c i) = [.num i (nb c i).toNat] := by unfold nq; rw [if_neg hn]
      have hne : (nb c i != -1) = true := bne_iff_ne.2 hn
      have hin : (decide (0 ≤ nb c i) && decide (nb c i < 100)) = true := by simp; omega
      have hsz := nmS_size (n := nb c i) (by omega) g2 i hi
      have he := nmE_eq (n := nb c i) (by omega) g2 i
      cases O with
      | nil =>
        refine (r2N c _ K i hi).mpr (pick_f (decide_eq_false (by omega)) (pick_f (decide_eq_false (by omega)) (pick_t hne (need_mk hin (need_mk hsz ?_)))))
        rw [he]
        exact ⟨nnS [strP (.num i (nb c i).toNat)] _ _, next [strP (.num i (nb c i).toNat)] (by simp) (by rw [hq]; rfl)⟩
      | cons t l =>
        refine (r2B c _ _ _ K i hi).mpr (pick_f (decide_eq_false (by omega)) (pick_f (decide_eq_false (by omega)) (pick_t hne (need_mk hin (need_mk hsz (pick_f (ble_ss _) (need_mk (fl_big (by omega)) (need_mk (fl_ble t l) ?_))))))))
        have e1 : (t :: l).map strV ++ [strV (strP (.num i (nb c i).toNat))] = ((t :: l) ++ [strP (.num i (nb c i).toNat)]).map strV := by rw [List.map_append]; rfl
        rw [he, fl_take, e1]
        have := next ((t :: l) ++ [strP (.num i (nb c i).toNat)]) (by simp at h2 ⊢; omega) (by rw [hq, List.append_assoc]; rfl)
        have e3 : outT 3 ((t :: l) ++ [strP (.num i (nb c i).toNat)]) = .slice (some ⟨3, 0, none⟩) ((t :: l).length + 1) ((t :: l).length + 1) := by
          show Value.slice (some ⟨3, 0, none⟩) ((t :: l) ++ [strP (.num i (nb c i).toNat)]).length ((t :: l) ++ [strP (.num i (nb c i).toNat)]).length = _
          rw [List.length_append]; rfl
        rw [e3] at this
        exact ⟨nnS _ _ _, this⟩
theorem rest_parts (c : Ct) : restF c 6 ++ restN c 6 = partsQ c := by
  simp only [restF, restN, partsQ, List.append_nil, List.append_assoc]
  rfl
theorem chunk_S : ∀ D : List (List UInt8), chunk false 1 D.length (D.map strV) = D.map strV
  | [] => rfl
  | d :: l => by
    have := chunk_S l
    simp only [List.length_cons, List.map_cons, chunk]
    rw [show (strV d :: l.map strV).drop 1 = l.map strV from rfl, this]
    rfl
theorem strs_S (D : List (List UInt8)) : (strsOf (D.map strV)).map (·.data.toList) = D := by
  unfold strsOf
  rw [List.map_map, List.map_map]
  have : ((fun x : ByteArray => x.data.toList) ∘ toStr) ∘ strV = id := by
    funext d
    exact bl_list d
  rw [this, List.map_id]
theorem all_str (D : List (List UInt8)) : (D.map strV).all isStr = true := by
  rw [List.all_eq_true]
  intro v hv
  obtain ⟨d, _, rfl⟩ := List.mem_map.1 hv
  rfl
theorem p1_S (D : List (List UInt8)) : (D.map strV).all p1 = true := by
  rw [List.all_eq_true]
  intro v hv
  obtain ⟨d, _, rfl⟩ := List.mem_map.1 hv
  rfl
theorem one4 : (loopAt (codeOf Tryz.f19) 4).length = 1 := by kernel_rfl
theorem one11 : (loopAt (codeOf Tryz.f19) 11).length = 1 := by kernel_rfl
theorem someTX : Tryz.f19.body.isSome = true := by kernel_rfl
theorem ct_nb {c : Ct} (h : CtOk c) : ∀ i, i < 6 → -1 ≤ nb c i ∧ nb c i < 100 := by
  intro i hi
  have := h.l0; have := h.l1; have := h.l2; have := h.l3; have := h.l4; have := h.l5
  have := h.u0; have := h.u1; have := h.u2; have := h.u3; have := h.u4; have := h.u5
  match i, hi with
  | 0, _ => exact ⟨h.l0, by have := h.u0; show c.n0 < 100; omega⟩
  | 1, _ => exact ⟨h.l1, by have := h.u1; show c.n1 < 100; omega⟩
  | 2, _ => exact ⟨h.l2, by have := h.u2; show c.n2 < 100; omega⟩
  | 3, _ => exact ⟨h.l3, by have := h.u3; show c.n3 < 100; omega⟩
  | 4, _ => exact ⟨h.l4, by have := h.u4; show c.n4 < 100; omega⟩
  | 5, _ => exact ⟨h.l5, by have := h.u5; show c.n5 < 100; omega⟩
  | i + 6, h => omega
set_option maxRecDepth 20000 in
theorem tx_fn {c : Ct} (h : CtOk c) : FnOK 0 Tryz.prog 19 ⟨[.agg ⟨ctC c⟩]⟩ h0 (fun v _ => v = .tuple ⟨[.string (txB (partsQ c)), .int .i64 0]⟩) := by
  have hrest := rest_parts c
  have hps : (restF c 6).map strP ++ (restN c 6).map strP = (partsQ c).map strP := by rw [← hrest, List.map_append]
  have hlen := parts_len c
  have hfl : (restF c 6).length ≤ 12 := by rw [← hrest, List.length_append] at hlen; omega
  have l1 : ∀ K : AExit → List Value → AH → Prop, K (.exit 0) [.pointer (some ⟨0, 0, none⟩), outT 1 ((restF c 6).map strP)] (x1T c ((restF c 6).map strP)) → ∃ n, iter 0 Tryz.prog SD1 [] noHooks 600 75 [1, 6, 16, 17, 18, 4] [3] [1, 4] [1] (oneLoop (codeOf Tryz.f19) 4) n (tv nilV 0) (t1N c) K := fun K hK => ⟨_, loop1 c K 6 0 [] rfl (Nat.le_refl _) hK⟩
  have l2 : ∀ K : AExit → List Value → AH → Prop, K (.exit 2) [anyV, anyV, outT 0 ((partsQ c).map strP)] (x2T ((partsQ c).map strP)) → ∃ n, iter 0 Tryz.prog SD1 [] noHooks 600 75 [1, 9, 38, 39, 40, 4] [3] [2, 3, 4] [0] (oneLoop (codeOf Tryz.f19) 11) n (tv (outT 3 ((restF c 6).map strP)) 0) (h2T c ((restF c 6).map strP)) K := fun K hK =>
    ⟨_, loop2 (ct_nb h) K 6 0 _ rfl (by
      have f0 := fq_len 0 c.b0; have f1 := fq_len 1 c.b1; have f2 := fq_len 2 c.b2; have f3 := fq_len 3 c.b3; have f4 := fq_len 4 c.b4; have f5 := fq_len 5 c.b5
      rw [List.length_map]
      show (fq 0 c.b0 ++ (fq 1 c.b1 ++ (fq 2 c.b2 ++ (fq 3 c.b3 ++ (fq 4 c.b4 ++ (fq 5 c.b5 ++ [])))))).length ≤ 0 + 6
      simp only [List.length_append, List.length_nil]
      omega) (by rw [hps]; exact hK)⟩
  have htl := tx_len hlen (parts_all h)
  have fin : ∀ (t : List UInt8) (l : List (List UInt8)), (partsQ c).map strP = t :: l →
      bif ((Nat.beq (t :: l).length (t :: l).length && Nat.beq (t :: l).length (t :: l).length) && true) && ((t :: l).map strV).all p1 && (t :: l).length.ble (t :: l).length && ((t :: l).length * 1).ble ((t :: l).map strV).length && true then
        bif okJ (chunk false 1 (t :: l).length ((t :: l).map strV)) ⟨#[44, 32]⟩ then (Value.tuple ⟨[.string (bl (Lib.join ((strsOf (chunk false 1 (t :: l).length ((t :: l).map strV))).map (·.data.toList)) [44, 32])), .int .i64 0]⟩ = .tuple ⟨[.string (txB (partsQ c)), .int .i64 0]⟩) else False else False := by
    intro t l he
    rw [chunk_S, strs_S]
    have hl : (t :: l).length ≤ 12 := by rw [← he, List.length_map]; exact hlen
    refine need_mk ?_ (need_mk ?_ (by rw [← he]; rfl))
    · rw [Nat.beq_refl, Nat.ble_eq_true_of_le (Nat.le_refl _), p1_S, List.length_map, Nat.mul_one, Nat.ble_eq_true_of_le (Nat.le_refl _)]; rfl
    · unfold okJ
      rw [strs_S, all_str, List.length_map, Nat.ble_eq_true_of_le (by omega), ← he]
      show (true && true && Nat.ble (Lib.join ((partsQ c).map strP) [44, 32]).length 100000) = true
      rw [Nat.ble_eq_true_of_le (by omega)]; rfl
  have g1 : ∀ (va : List Value) (ha : AH), va = [.pointer (some ⟨0, 0, none⟩), outT 1 ((restF c 6).map strP)] → ha = x1T c ((restF c 6).map strP) →
      LSpec 0 Tryz.prog 75 (oneLoop (codeOf Tryz.f19) 4) (hookLS 0 75 [1, 6, 16, 17, 18, 4] [3] [1, 4] (fun vals h K => (vals = tv nilV 0 ∧ h = t1N c) ∧ K (.exit 0) va ha)) := by
    intro va ha e1 e2
    refine hook_ok (G := []) (L := noHooks) (f := 600) (sameX := [1]) SD1_ok mixed (by decide) (loops_none _ _ _ _) ?_
    rintro vals h K ⟨⟨rfl, rfl⟩, hK⟩
    subst e1 e2
    exact l1 K hK
  have g2 : ∀ (vb : List Value) (hb : AH), vb = [anyV, anyV, outT 0 ((partsQ c).map strP)] → hb = x2T ((partsQ c).map strP) →
      LSpec 0 Tryz.prog 75 (oneLoop (codeOf Tryz.f19) 11) (thenLS (hookLS 0 75 [1, 9, 38, 39, 40, 4] [3] [2, 3, 4] (fun vals h K => (vals = tv (outT 3 ((restF c 6).map strP)) 0 ∧ h = h2T c ((restF c 6).map strP)) ∧ K (.exit 2) vb hb)) (freezeG 75 false 1 [4])) := by
    intro vb hb e1 e2
    refine thenLS_ok (hook_ok (G := []) (L := noHooks) (f := 600) (sameX := [0]) SD1_ok mixed (by decide) (loops_none _ _ _ _) ?_) (freezeG_ok _ _ _ _ _ _)
    rintro vals h K ⟨⟨rfl, rfl⟩, hK⟩
    subst e1 e2
    exact l2 K hK
  cases hF : (restF c 6).map strP with
  | nil =>
    rw [hF] at g1 g2
    cases hP : (partsQ c).map strP with
    | nil =>
      rw [hP] at g2
      refine FnOK.ttree SD2_ok mixed Tryz.func19 someTX (loops_or (loops_one one4 (g1 _ _ rfl rfl)) (loops_one one11 (g2 _ _ rfl rfl))) (txNN c [] [] 0 0 _ _ (fun v => v = .tuple ⟨[.string (txB (partsQ c)), .int .i64 0]⟩)) ?_
      refine ⟨⟨rfl, rfl⟩, ⟨rfl, rfl⟩, ?_⟩
      unfold txB
      rw [hP]
      rfl
    | cons t l =>
      rw [hP] at g2
      refine FnOK.ttree SD2_ok mixed Tryz.func19 someTX (loops_or (loops_one one4 (g1 _ _ rfl rfl)) (loops_one one11 (g2 _ _ rfl rfl))) (txNB c [] ((t :: l).map strV) 0 (t :: l).length _ _ (fun v => v = .tuple ⟨[.string (txB (partsQ c)), .int .i64 0]⟩)) ?_
      exact ⟨⟨rfl, rfl⟩, ⟨rfl, rfl⟩, fin t l hP⟩
  | cons u o =>
    rw [hF] at g1 g2 hps
    cases hP : (partsQ c).map strP with
    | nil => rw [hP] at hps; cases hps
    | cons t l =>
      rw [hP] at g2
      refine FnOK.ttree SD2_ok mixed Tryz.func19 someTX (loops_or (loops_one one4 (g1 _ _ rfl rfl)) (loops_one one11 (g2 _ _ rfl rfl))) (txBB c ((u :: o).map strV) ((t :: l).map strV) (u :: o).length (t :: l).length _ _ (fun v => v = .tuple ⟨[.string (txB (partsQ c)), .int .i64 0]⟩)) ?_
      exact ⟨⟨rfl, rfl⟩, nnS (u :: o) _ _, ⟨rfl, rfl⟩, fin t l hP⟩
end Go.Proofs.YtbeodpcdjlphkaaGreatDoor
