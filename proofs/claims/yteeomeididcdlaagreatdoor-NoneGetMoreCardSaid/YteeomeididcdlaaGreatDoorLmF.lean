/-
  Limits: Replay, round by round: sliding limits, and what lasts.
-/
import Derived.Test.YteeomeididcdlaaGreatDoorLmE
namespace Go.Proofs.YteeomeididcdlaaGreatDoor
open Go.Ev Go.RowKit LimLaw

noncomputable def SRs : SC := ⟨idn, spOr spCl (spOr spCa (spOr spAf (spOr spPm (spOr spPt (spOr spPs (spOr spPw spPn)))))), true, true⟩
theorem SRs_ok : SRs.cfg.OK Tryz.prog := (spCl_ok.or (spCa_ok.or (spAf_ok.or (spPm_ok.or (spPt_ok.or (spPs_ok.or (spPw_ok.or spPn_ok))))))).cfg
def mtS (lc oc : List Value) (k : Nat) (ps : List Value) (w : ByteArray) (now : Int) : AH := ⟨8, 8, [(0, .cells ⟨lc⟩ 27 (0, 0)), (1, .cells ⟨[.slice (some ⟨3, 0, none⟩) 1 1, .int .i64 now, .map (some 4)]⟩ 87 (0, 0)), (2, .cells ⟨oc⟩ 42 (0, 0)), (3, .cells ⟨lc⟩ 27 (0, 0)),
  (4, .map ⟨[⟨.string w, .slice (some ⟨5, 0, none⟩) 1 1, 0⟩]⟩ 1), (5, .cells ⟨[.iface 152 (.pointer (some ⟨6, 0, none⟩))]⟩ 89 (0, 0)), (6, .cells ⟨lc ++ [.slice (some ⟨7, 0, none⟩) k k]⟩ 156 (0, 0)), (7, .cells ⟨ps⟩ 308 (1, 1))]⟩
def apS (j : Nat) (oc : List Value) (v : Vd) (ps : List Value) (B : List Value → Prop) : Prop :=
  bif (j + 1).ble j then False else bif (j + 1).ble 9223372036854775807 && ((j + 1) * 32).ble 140737488355328 then bif (0 + j * 3).ble (Array.mk oc).size && true && true then
    NoNames (.cells ⟨List.take (j * 3) (List.drop 0 (Array.mk oc).toList) ++ vdC v⟩ 42 (0, 0)) ∧ NoNames (.cells ⟨ps⟩ 308 (1, 1)) ∧ B (List.take (j * 3) (List.drop 0 (Array.mk oc).toList) ++ vdC v) else False else False
noncomputable def vS (m p b : Int) (k : Nat) (ps : List Value) (t c : Int) (ok : Nat → List Value → Prop) (no : Int → Prop) : Prop :=
  bif Nat.beq k k && okC k ps && Nat.ble k 1000 then bif decide (c ≤ IntKind.i64.wrap (m - sumP t 0 (rdL k ps))) then
    bif Nat.beq k k && okC k ps && Nat.ble k 1000 && true then bif Nat.beq (kpL t k ps).length (kpL t k ps).length && okC (kpL t k ps).length ((kpL t k ps).flatMap pcC) && Nat.ble (kpL t k ps).length 1000 && okLast (IntKind.i64.wrap (t + p)) (rdL (kpL t k ps).length ((kpL t k ps).flatMap pcC)) && true then
      ok ((kpL t k ps).length + 1) ((rdL (kpL t k ps).length ((kpL t k ps).flatMap pcC) ++ [(IntKind.i64.wrap (t + p), c)]).flatMap pcC) else False else False
  else bif decide (c ≤ m) then bif Nat.beq k k && okC k ps && Nat.ble k 1000 then no (waitP t (IntKind.i64.wrap (m - c)) (sumP t 0 (rdL k ps)) (rdL k ps)) else False else no (-1) else False
def v0 (m c : Int) (ok : Prop) (no : Int → Prop) : Prop := bif decide (c ≤ IntKind.i64.wrap (m - 0)) then ok else bif decide (c ≤ m) then no 0 else no (-1)
theorem rpS0 (xs : List Value) (m p b n i now t c l : Int) (B : List Value → AH → Prop) (Q : AExit → List Value → AH → Prop) :
    once 1 Tryz.prog SRs [] (ghost1 11 (tellB 11 (akC (t, annB, c, l)))) 3000 47 [8, 9, 26, 27, 28] [2, 7] [9] [1] (oneLoop (codeOf Tryz.f16) 10) (rpV xs (.slice none 0 0) n i) (mt0 (lmC keyB 2 m p b) now) B Q =
      rndT xs n i now t c l (Q (.exit 0) [.slice none 0 0] (rpX (lmC keyB 2 m p b))) (Q .ret [.slice none 0 0] (rpX (lmC keyB 2 m p b)))
        (v0 m c (NoNames (.cells ⟨vdC okVd⟩ 42 (0, 0)) ∧ NoNames (.cells ⟨pcC (IntKind.i64.wrap (t + p), c)⟩ 308 (1, 1)) ∧ B (rpV xs (.slice (some ⟨2, 0, none⟩) 1 1) n (IntKind.i64.wrap (i + 1))) (mtS (lmC keyB 2 m p b) (vdC okVd) 1 (pcC (IntKind.i64.wrap (t + p), c)) annB t))
          (fun w => NoNames (.cells ⟨vdC (noVd w)⟩ 42 (0, 0)) ∧ B (rpV xs (.slice (some ⟨2, 0, none⟩) 1 1) n (IntKind.i64.wrap (i + 1))) (mt0b (lmC keyB 2 m p b) (vdC (noVd w)) t))) := by kernel_rfl
theorem rpS1 (xs oc ps : List Value) (j k : Nat) (m p b n i now t c l : Int) (B : List Value → AH → Prop) (Q : AExit → List Value → AH → Prop) :
    once 1 Tryz.prog SRs [] (ghost1 11 (tellB 11 (akC (t, annB, c, l)))) 3000 47 [8, 9, 26, 27, 28] [2, 7] [9] [1] (oneLoop (codeOf Tryz.f16) 10) (rpV xs (.slice (some ⟨2, 0, none⟩) j j) n i) (mtS (lmC keyB 2 m p b) oc k ps annB now) B Q =
      rndT xs n i now t c l (NoNames (.cells ⟨oc⟩ 42 (0, 0)) ∧ Q (.exit 0) [.slice (some ⟨1, 0, none⟩) j j] (rpXo (lmC keyB 2 m p b) oc)) (NoNames (.cells ⟨oc⟩ 42 (0, 0)) ∧ Q .ret [.slice (some ⟨1, 0, none⟩) j j] (rpXo (lmC keyB 2 m p b) oc))
        (vS m p b k ps t c (fun k2 p2 => apS j oc okVd p2 fun o2 => B (rpV xs (.slice (some ⟨2, 0, none⟩) (j + 1) (j + 1)) n (IntKind.i64.wrap (i + 1))) (mtS (lmC keyB 2 m p b) o2 k2 p2 annB t))
          (fun w => apS j oc (noVd w) ps fun o2 => B (rpV xs (.slice (some ⟨2, 0, none⟩) (j + 1) (j + 1)) n (IntKind.i64.wrap (i + 1))) (mtS (lmC keyB 2 m p b) o2 k ps annB t))) := by kernel_rfl
/-! what lasts: nothing is kept where nothing lasts -/
theorem rpO0 (xs : List Value) (m p b n i now t c : Int) (B : List Value → AH → Prop) (Q : AExit → List Value → AH → Prop) :
    once 1 Tryz.prog SRp [] (ghost1 11 (tellB 11 (akC (t, annB, c, 0)))) 3000 47 [8, 9, 26, 27, 28] [2] [9] [1] (oneLoop (codeOf Tryz.f16) 10) (rpV xs (.slice none 0 0) n i) (mt0 (lmC keyB 4 m p b) now) B Q =
      rndT xs n i now t c 0 (Q (.exit 0) [.slice none 0 0] (rpX (lmC keyB 4 m p b))) (Q .ret [.slice none 0 0] (rpX (lmC keyB 4 m p b)))
        (v0 m c (NoNames (.cells ⟨vdC okVd⟩ 42 (0, 0)) ∧ B (rpV xs (.slice (some ⟨2, 0, none⟩) 1 1) n (IntKind.i64.wrap (i + 1))) (mt1 (lmC keyB 4 m p b) ((lmC keyB 4 m p b) ++ [.slice none 0 0]) (vdC okVd) annB t 158 157))
          (fun w => NoNames (.cells ⟨vdC (noVd w)⟩ 42 (0, 0)) ∧ B (rpV xs (.slice (some ⟨2, 0, none⟩) 1 1) n (IntKind.i64.wrap (i + 1))) (mt0b (lmC keyB 4 m p b) (vdC (noVd w)) t))) := by kernel_rfl
theorem rpO1 (xs oc : List Value) (j : Nat) (m p b n i now t c : Int) (B : List Value → AH → Prop) (Q : AExit → List Value → AH → Prop) :
    once 1 Tryz.prog SRp [] (ghost1 11 (tellB 11 (akC (t, annB, c, 0)))) 3000 47 [8, 9, 26, 27, 28] [2] [9] [1] (oneLoop (codeOf Tryz.f16) 10) (rpV xs (.slice (some ⟨2, 0, none⟩) j j) n i) (mt1 (lmC keyB 4 m p b) ((lmC keyB 4 m p b) ++ [.slice none 0 0]) oc annB now 158 157) B Q =
      rndT xs n i now t c 0 (NoNames (.cells ⟨oc⟩ 42 (0, 0)) ∧ Q (.exit 0) [.slice (some ⟨1, 0, none⟩) j j] (rpXo (lmC keyB 4 m p b) oc)) (NoNames (.cells ⟨oc⟩ 42 (0, 0)) ∧ Q .ret [.slice (some ⟨1, 0, none⟩) j j] (rpXo (lmC keyB 4 m p b) oc))
        (v0 m c (apT j oc okVd fun o2 => B (rpV xs (.slice (some ⟨2, 0, none⟩) (j + 1) (j + 1)) n (IntKind.i64.wrap (i + 1))) (mt1 (lmC keyB 4 m p b) ((lmC keyB 4 m p b) ++ [.slice none 0 0]) o2 annB t 158 157))
          (fun w => apT j oc (noVd w) fun o2 => B (rpV xs (.slice (some ⟨2, 0, none⟩) (j + 1) (j + 1)) n (IntKind.i64.wrap (i + 1))) (mt1 (lmC keyB 4 m p b) ((lmC keyB 4 m p b) ++ [.slice none 0 0]) o2 annB t 158 157))) := by kernel_rfl
end Go.Proofs.YteeomeididcdlaaGreatDoor
