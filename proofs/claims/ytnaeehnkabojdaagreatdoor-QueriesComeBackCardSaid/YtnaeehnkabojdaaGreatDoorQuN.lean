/-
  Requests: Normal, as a specification.
-/
import Derived.Test.YtnaeehnkabojdaaGreatDoorQuM
namespace Go.Proofs.YtnaeehnkabojdaaGreatDoor
open Go.Ev Go.RowKit RecLaw PathLaw QueryLaw

def rV (a : Int) (m ho p q f b : ByteArray) (hv : Value) : Value := .agg ⟨[.int .i64 a, .string m, .string ho, .string p, .string q, .string f, hv, .string b]⟩
def zeroV : Value := .agg ⟨[.int .i64 0, .string ⟨#[]⟩, .string ⟨#[]⟩, .string ⟨#[]⟩, .string ⟨#[]⟩, .string ⟨#[]⟩, .slice none 0 0, .string ⟨#[]⟩]⟩
def erV (e : Int) : Value := .tuple ⟨[zeroV, .int .i64 e]⟩
noncomputable def noA (V : Value) (ho p : ByteArray) (Q : Value → Prop) (X : Prop) : Prop :=
  bif okRq V && decide (crE (unR V) = 0) then bif inH ho then bif LE2 p then bif npE p.data.toList != 0 then Q (erV (npE p.data.toList)) else X else False else False else False
noncomputable def noP0 (q : ByteArray) (Q : Value → Prop) (X : ByteArray → Prop) : Prop :=
  bif LE2 q && (pqL q.data.toList).isEmpty then bif pqE q.data.toList != 0 then Q (erV (pqE q.data.toList)) else X ⟨#[]⟩ else False
noncomputable def noS (D : List (Bs × Bs)) (CS : List Value) (Q : Value → Prop) (X : ByteArray → Prop) : Prop :=
  bif true && true && Nat.beq D.length D.length && okC D.length (D.flatMap prC) && Nat.ble D.length 4 && true then
    bif ((true && Nat.beq D.length D.length && Nat.beq D.length D.length) && true) && CS.all p1 && Nat.ble D.length D.length && Nat.ble (D.length * 2) (Array.mk CS).size && true then
      bif okPs (chunk true 2 D.length CS) then bif qtE ((chunk true 2 D.length CS).map unP) != 0 then Q (erV (qtE ((chunk true 2 D.length CS).map unP))) else X (bl (qtS ((chunk true 2 D.length CS).map unP))) else False
    else False else False
noncomputable def noP1 (q : ByteArray) (Q : Value → Prop) (X : ByteArray → Prop) : Prop :=
  bif LE2 q && !(pqL q.data.toList).isEmpty then
    bif true && true && Nat.beq (pqL q.data.toList).length (pqL q.data.toList).length && okC (pqL q.data.toList).length ((pqL q.data.toList).flatMap prC) && Nat.ble (pqL q.data.toList).length 4 && Nat.ble 1 (pqL q.data.toList).length && true then
      noS (dl (unC ((pqL q.data.toList).flatMap prC))) ((srtP (unC ((dl (unC ((pqL q.data.toList).flatMap prC))).flatMap prC))).flatMap prC) Q X
    else False else False
def ascT : List ByteArray → Prop → Prop
  | [], X => X
  | n :: r, X => bif okAsc n then ascT r X else False
noncomputable def noF (a : Int) (m ho p f b : ByteArray) (hd : Value) (ns : List ByteArray) (Q : Value → Prop) (t : ByteArray) : Prop :=
  bif okAsc m then ascT ns (Q (.tuple ⟨[.agg ⟨[.int .i64 a, .string (bl (Lib.toUpperA m.data.toList)), .string (nhS ho), .string (bl (npS p.data.toList)), .string t, .string f, hd, .string b]⟩, .int .i64 0]⟩)) else False
theorem noe1 (a : Int) (m ho p q f b : ByteArray) (hv : Value) (Q : Value → Prop) : ffn Tryz.prog (SNm 1 false) [] 3000 [] Tryz.f10 [rV a m ho p q f b hv] h0 (fun v _ => Q v) =
    bif okRq (rV a m ho p q f b hv) && decide (crE (unR (rV a m ho p q f b hv)) = 1) then Q (erV 1) else False := by kernel_rfl
theorem noe2 (a : Int) (m ho p q f b : ByteArray) (hv : Value) (Q : Value → Prop) : ffn Tryz.prog (SNm 2 false) [] 3000 [] Tryz.f10 [rV a m ho p q f b hv] h0 (fun v _ => Q v) =
    bif okRq (rV a m ho p q f b hv) && decide (crE (unR (rV a m ho p q f b hv)) = 2) then Q (erV 2) else False := by kernel_rfl
theorem noe3 (a : Int) (m ho p q f b : ByteArray) (hv : Value) (Q : Value → Prop) : ffn Tryz.prog (SNm 3 false) [] 3000 [] Tryz.f10 [rV a m ho p q f b hv] h0 (fun v _ => Q v) =
    bif okRq (rV a m ho p q f b hv) && decide (crE (unR (rV a m ho p q f b hv)) = 3) then Q (erV 3) else False := by kernel_rfl
theorem noe5 (a : Int) (m ho p q f b : ByteArray) (hv : Value) (Q : Value → Prop) : ffn Tryz.prog (SNm 5 false) [] 3000 [] Tryz.f10 [rV a m ho p q f b hv] h0 (fun v _ => Q v) =
    bif okRq (rV a m ho p q f b hv) && decide (crE (unR (rV a m ho p q f b hv)) = 5) then Q (erV 5) else False := by kernel_rfl
theorem no0_0 (a : Int) (m ho p q f b  : ByteArray) (Q : Value → Prop) : tfn Tryz.prog (SNm 0 false) [] noHooks 3000 [] Tryz.f10 [rV a m ho p q f b (.slice none 0 0)] h0 (fun v _ => Q v) =
    noA (rV a m ho p q f b (.slice none 0 0)) ho p Q (noP0 q Q (noF a m ho p f b (.slice none 0 0) [] Q)) := by kernel_rfl
theorem no0_1 (a : Int) (m ho p q f b n0 v0 : ByteArray) (Q : Value → Prop) : tfn Tryz.prog (SNm 0 false) [] (ghost1 23 (freezeH 2 6 true 2)) 3000 [] Tryz.f10 [rV a m ho p q f b (fz ⟨[.agg ⟨[.string n0, .string v0]⟩]⟩)] h0 (fun v _ => Q v) =
    noA (rV a m ho p q f b (fz ⟨[.agg ⟨[.string n0, .string v0]⟩]⟩)) ho p Q (noP0 q Q (noF a m ho p f b (fz ⟨[.agg ⟨[.string (bl (Lib.toLowerA n0.data.toList)), .string v0]⟩]⟩) [n0] Q)) := by kernel_rfl
theorem no0_2 (a : Int) (m ho p q f b n0 v0 n1 v1 : ByteArray) (Q : Value → Prop) : tfn Tryz.prog (SNm 0 false) [] (ghost1 23 (freezeH 2 6 true 2)) 3000 [] Tryz.f10 [rV a m ho p q f b (fz ⟨[.agg ⟨[.string n0, .string v0]⟩, .agg ⟨[.string n1, .string v1]⟩]⟩)] h0 (fun v _ => Q v) =
    noA (rV a m ho p q f b (fz ⟨[.agg ⟨[.string n0, .string v0]⟩, .agg ⟨[.string n1, .string v1]⟩]⟩)) ho p Q (noP0 q Q (noF a m ho p f b (fz ⟨[.agg ⟨[.string (bl (Lib.toLowerA n0.data.toList)), .string v0]⟩, .agg ⟨[.string (bl (Lib.toLowerA n1.data.toList)), .string v1]⟩]⟩) [n0, n1] Q)) := by kernel_rfl
theorem no0_3 (a : Int) (m ho p q f b n0 v0 n1 v1 n2 v2 : ByteArray) (Q : Value → Prop) : tfn Tryz.prog (SNm 0 false) [] (ghost1 23 (freezeH 2 6 true 2)) 3000 [] Tryz.f10 [rV a m ho p q f b (fz ⟨[.agg ⟨[.string n0, .string v0]⟩, .agg ⟨[.string n1, .string v1]⟩, .agg ⟨[.string n2, .string v2]⟩]⟩)] h0 (fun v _ => Q v) =
    noA (rV a m ho p q f b (fz ⟨[.agg ⟨[.string n0, .string v0]⟩, .agg ⟨[.string n1, .string v1]⟩, .agg ⟨[.string n2, .string v2]⟩]⟩)) ho p Q (noP0 q Q (noF a m ho p f b (fz ⟨[.agg ⟨[.string (bl (Lib.toLowerA n0.data.toList)), .string v0]⟩, .agg ⟨[.string (bl (Lib.toLowerA n1.data.toList)), .string v1]⟩, .agg ⟨[.string (bl (Lib.toLowerA n2.data.toList)), .string v2]⟩]⟩) [n0, n1, n2] Q)) := by kernel_rfl
theorem no0_4 (a : Int) (m ho p q f b n0 v0 n1 v1 n2 v2 n3 v3 : ByteArray) (Q : Value → Prop) : tfn Tryz.prog (SNm 0 false) [] (ghost1 23 (freezeH 2 6 true 2)) 3000 [] Tryz.f10 [rV a m ho p q f b (fz ⟨[.agg ⟨[.string n0, .string v0]⟩, .agg ⟨[.string n1, .string v1]⟩, .agg ⟨[.string n2, .string v2]⟩, .agg ⟨[.string n3, .string v3]⟩]⟩)] h0 (fun v _ => Q v) =
    noA (rV a m ho p q f b (fz ⟨[.agg ⟨[.string n0, .string v0]⟩, .agg ⟨[.string n1, .string v1]⟩, .agg ⟨[.string n2, .string v2]⟩, .agg ⟨[.string n3, .string v3]⟩]⟩)) ho p Q (noP0 q Q (noF a m ho p f b (fz ⟨[.agg ⟨[.string (bl (Lib.toLowerA n0.data.toList)), .string v0]⟩, .agg ⟨[.string (bl (Lib.toLowerA n1.data.toList)), .string v1]⟩, .agg ⟨[.string (bl (Lib.toLowerA n2.data.toList)), .string v2]⟩, .agg ⟨[.string (bl (Lib.toLowerA n3.data.toList)), .string v3]⟩]⟩) [n0, n1, n2, n3] Q)) := by kernel_rfl
theorem no0_5 (a : Int) (m ho p q f b n0 v0 n1 v1 n2 v2 n3 v3 n4 v4 : ByteArray) (Q : Value → Prop) : tfn Tryz.prog (SNm 0 false) [] (ghost1 23 (freezeH 2 6 true 2)) 3000 [] Tryz.f10 [rV a m ho p q f b (fz ⟨[.agg ⟨[.string n0, .string v0]⟩, .agg ⟨[.string n1, .string v1]⟩, .agg ⟨[.string n2, .string v2]⟩, .agg ⟨[.string n3, .string v3]⟩, .agg ⟨[.string n4, .string v4]⟩]⟩)] h0 (fun v _ => Q v) =
    noA (rV a m ho p q f b (fz ⟨[.agg ⟨[.string n0, .string v0]⟩, .agg ⟨[.string n1, .string v1]⟩, .agg ⟨[.string n2, .string v2]⟩, .agg ⟨[.string n3, .string v3]⟩, .agg ⟨[.string n4, .string v4]⟩]⟩)) ho p Q (noP0 q Q (noF a m ho p f b (fz ⟨[.agg ⟨[.string (bl (Lib.toLowerA n0.data.toList)), .string v0]⟩, .agg ⟨[.string (bl (Lib.toLowerA n1.data.toList)), .string v1]⟩, .agg ⟨[.string (bl (Lib.toLowerA n2.data.toList)), .string v2]⟩, .agg ⟨[.string (bl (Lib.toLowerA n3.data.toList)), .string v3]⟩, .agg ⟨[.string (bl (Lib.toLowerA n4.data.toList)), .string v4]⟩]⟩) [n0, n1, n2, n3, n4] Q)) := by kernel_rfl
theorem no1_0 (a : Int) (m ho p q f b  : ByteArray) (Q : Value → Prop) : tfn Tryz.prog (SNm 0 true) [] (ghost1 12 (freezeG 90 true 2 [9])) 3000 [] Tryz.f10 [rV a m ho p q f b (.slice none 0 0)] h0 (fun v _ => Q v) =
    noA (rV a m ho p q f b (.slice none 0 0)) ho p Q (noP1 q Q (noF a m ho p f b (.slice none 0 0) [] Q)) := by kernel_rfl
theorem no1_1 (a : Int) (m ho p q f b n0 v0 : ByteArray) (Q : Value → Prop) : tfn Tryz.prog (SNm 0 true) [] (hookOr (ghost1 12 (freezeG 90 true 2 [9])) (ghost1 23 (freezeH 2 6 true 2))) 3000 [] Tryz.f10 [rV a m ho p q f b (fz ⟨[.agg ⟨[.string n0, .string v0]⟩]⟩)] h0 (fun v _ => Q v) =
    noA (rV a m ho p q f b (fz ⟨[.agg ⟨[.string n0, .string v0]⟩]⟩)) ho p Q (noP1 q Q (noF a m ho p f b (fz ⟨[.agg ⟨[.string (bl (Lib.toLowerA n0.data.toList)), .string v0]⟩]⟩) [n0] Q)) := by kernel_rfl
theorem no1_2 (a : Int) (m ho p q f b n0 v0 n1 v1 : ByteArray) (Q : Value → Prop) : tfn Tryz.prog (SNm 0 true) [] (hookOr (ghost1 12 (freezeG 90 true 2 [9])) (ghost1 23 (freezeH 2 6 true 2))) 3000 [] Tryz.f10 [rV a m ho p q f b (fz ⟨[.agg ⟨[.string n0, .string v0]⟩, .agg ⟨[.string n1, .string v1]⟩]⟩)] h0 (fun v _ => Q v) =
    noA (rV a m ho p q f b (fz ⟨[.agg ⟨[.string n0, .string v0]⟩, .agg ⟨[.string n1, .string v1]⟩]⟩)) ho p Q (noP1 q Q (noF a m ho p f b (fz ⟨[.agg ⟨[.string (bl (Lib.toLowerA n0.data.toList)), .string v0]⟩, .agg ⟨[.string (bl (Lib.toLowerA n1.data.toList)), .string v1]⟩]⟩) [n0, n1] Q)) := by kernel_rfl
theorem no1_3 (a : Int) (m ho p q f b n0 v0 n1 v1 n2 v2 : ByteArray) (Q : Value → Prop) : tfn Tryz.prog (SNm 0 true) [] (hookOr (ghost1 12 (freezeG 90 true 2 [9])) (ghost1 23 (freezeH 2 6 true 2))) 3000 [] Tryz.f10 [rV a m ho p q f b (fz ⟨[.agg ⟨[.string n0, .string v0]⟩, .agg ⟨[.string n1, .string v1]⟩, .agg ⟨[.string n2, .string v2]⟩]⟩)] h0 (fun v _ => Q v) =
    noA (rV a m ho p q f b (fz ⟨[.agg ⟨[.string n0, .string v0]⟩, .agg ⟨[.string n1, .string v1]⟩, .agg ⟨[.string n2, .string v2]⟩]⟩)) ho p Q (noP1 q Q (noF a m ho p f b (fz ⟨[.agg ⟨[.string (bl (Lib.toLowerA n0.data.toList)), .string v0]⟩, .agg ⟨[.string (bl (Lib.toLowerA n1.data.toList)), .string v1]⟩, .agg ⟨[.string (bl (Lib.toLowerA n2.data.toList)), .string v2]⟩]⟩) [n0, n1, n2] Q)) := by kernel_rfl
theorem no1_4 (a : Int) (m ho p q f b n0 v0 n1 v1 n2 v2 n3 v3 : ByteArray) (Q : Value → Prop) : tfn Tryz.prog (SNm 0 true) [] (hookOr (ghost1 12 (freezeG 90 true 2 [9])) (ghost1 23 (freezeH 2 6 true 2))) 3000 [] Tryz.f10 [rV a m ho p q f b (fz ⟨[.agg ⟨[.string n0, .string v0]⟩, .agg ⟨[.string n1, .string v1]⟩, .agg ⟨[.string n2, .string v2]⟩, .agg ⟨[.string n3, .string v3]⟩]⟩)] h0 (fun v _ => Q v) =
    noA (rV a m ho p q f b (fz ⟨[.agg ⟨[.string n0, .string v0]⟩, .agg ⟨[.string n1, .string v1]⟩, .agg ⟨[.string n2, .string v2]⟩, .agg ⟨[.string n3, .string v3]⟩]⟩)) ho p Q (noP1 q Q (noF a m ho p f b (fz ⟨[.agg ⟨[.string (bl (Lib.toLowerA n0.data.toList)), .string v0]⟩, .agg ⟨[.string (bl (Lib.toLowerA n1.data.toList)), .string v1]⟩, .agg ⟨[.string (bl (Lib.toLowerA n2.data.toList)), .string v2]⟩, .agg ⟨[.string (bl (Lib.toLowerA n3.data.toList)), .string v3]⟩]⟩) [n0, n1, n2, n3] Q)) := by kernel_rfl
theorem no1_5 (a : Int) (m ho p q f b n0 v0 n1 v1 n2 v2 n3 v3 n4 v4 : ByteArray) (Q : Value → Prop) : tfn Tryz.prog (SNm 0 true) [] (hookOr (ghost1 12 (freezeG 90 true 2 [9])) (ghost1 23 (freezeH 2 6 true 2))) 3000 [] Tryz.f10 [rV a m ho p q f b (fz ⟨[.agg ⟨[.string n0, .string v0]⟩, .agg ⟨[.string n1, .string v1]⟩, .agg ⟨[.string n2, .string v2]⟩, .agg ⟨[.string n3, .string v3]⟩, .agg ⟨[.string n4, .string v4]⟩]⟩)] h0 (fun v _ => Q v) =
    noA (rV a m ho p q f b (fz ⟨[.agg ⟨[.string n0, .string v0]⟩, .agg ⟨[.string n1, .string v1]⟩, .agg ⟨[.string n2, .string v2]⟩, .agg ⟨[.string n3, .string v3]⟩, .agg ⟨[.string n4, .string v4]⟩]⟩)) ho p Q (noP1 q Q (noF a m ho p f b (fz ⟨[.agg ⟨[.string (bl (Lib.toLowerA n0.data.toList)), .string v0]⟩, .agg ⟨[.string (bl (Lib.toLowerA n1.data.toList)), .string v1]⟩, .agg ⟨[.string (bl (Lib.toLowerA n2.data.toList)), .string v2]⟩, .agg ⟨[.string (bl (Lib.toLowerA n3.data.toList)), .string v3]⟩, .agg ⟨[.string (bl (Lib.toLowerA n4.data.toList)), .string v4]⟩]⟩) [n0, n1, n2, n3, n4] Q)) := by kernel_rfl

theorem someNO : Tryz.f10.body.isSome = true := by kernel_rfl
theorem gh12 : LoopsOK 0 Tryz.prog 90 (ghost1 12 (freezeG 90 true 2 [9])) (codeOf Tryz.f10) := ghosts_one (by kernel_rfl) (freezeG_ok _ _ _ _ _ _)
theorem gh23 : LoopsOK 0 Tryz.prog 90 (ghost1 23 (freezeH 2 6 true 2)) (codeOf Tryz.f10) := ghosts_one (by kernel_rfl) (freezeH_ok _ _ _ _ _ _ _)
/-! the plain side -/
theorem chL_in : ∀ l : List (Bs × Bs), chL l = 0 ∨ chL l = 3 ∨ chL l = 5
  | [] => .inl rfl
  | p :: r => by
    unfold chL
    split
    · split
      · exact chL_in r
      · exact .inr (.inl rfl)
    · exact .inr (.inr rfl)
theorem chE_in (l : List (Bs × Bs)) : chE l = 0 ∨ chE l = 2 ∨ chE l = 3 ∨ chE l = 5 := by
  have := chL_in l
  unfold chE
  split <;> omega
theorem crE_in (r : Rq) : crE r = 0 ∨ crE r = 1 ∨ crE r = 2 ∨ crE r = 3 ∨ crE r = 5 := by
  have := chE_in r.hs
  unfold crE
  repeat' split
  all_goals omega
theorem chunk_pr : ∀ L : List (Bs × Bs), chunk true 2 L.length (L.flatMap prC) = L.map prV
  | [] => rfl
  | p :: l => by
    show .agg ⟨List.take 2 (prC p ++ l.flatMap prC)⟩ :: chunk true 2 l.length (List.drop 2 (prC p ++ l.flatMap prC)) = prV p :: l.map prV
    rw [show List.drop 2 (prC p ++ l.flatMap prC) = l.flatMap prC from rfl, chunk_pr l]
    rfl
theorem prB_le {w : Bs} {p : Bs × Bs} (h : prB w = some p) : p.1.length ≤ w.length ∧ p.2.length ≤ w.length := by
  have hc := cut_len w
  unfold prB at h
  cases e1 : dq (cutB w).1 with
  | none => rw [e1] at h; cases h
  | some a =>
    cases e2 : dq (cutB w).2 with
    | none => rw [e1, e2] at h; cases h
    | some b =>
      rw [e1, e2] at h
      cases h
      have := dq_len _ e1
      have := dq_len _ e2
      constructor
      · show a.length ≤ _
        omega
      · show b.length ≤ _
        omega
theorem prs_le {n : Nat} : ∀ (ws : List Bs) {L : List (Bs × Bs)}, (∀ w ∈ ws, w.length ≤ n) → prs ws = some L → ∀ p ∈ L, p.1.length ≤ n ∧ p.2.length ≤ n
  | [], L, _, h, p, hp => by cases h; cases hp
  | w :: r, L, hw, h, p, hp => by
    unfold prs at h
    have hr : ∀ x ∈ r, x.length ≤ n := fun x hx => hw x (by simp [hx])
    split at h
    · exact prs_le r hr h p hp
    · split at h
      · rename_i q l h1 h2
        cases h
        rcases List.mem_cons.1 hp with rfl | hp
        · have := prB_le h1
          have := hw w (by simp)
          omega
        · exact prs_le r hr h2 p hp
      · cases h
theorem pqL_le {s : Bs} : ∀ p ∈ pqL s, p.1.length ≤ 1000 ∧ p.2.length ≤ 1000 := by
  intro p hp
  unfold pqL at hp
  split at hp
  · rename_i he
    have hq : okQ s = true := by
      cases q : okQ s with
      | true => rfl
      | false => unfold pqE at he; rw [q] at he; cases he
    have hl := (okQ_iff.1 hq).1
    cases e : prs (spl 38 s) with
    | none => rw [e] at hp; cases hp
    | some L =>
      rw [e] at hp
      exact prs_le _ (fun w hw => by have := spl_mem_len 38 s w hw; omega) e p hp
  · cases hp
theorem dl_ok {L : List (Bs × Bs)} (h : ∀ p ∈ L, p.1.length ≤ 1000 ∧ p.2.length ≤ 1000) : ∀ p ∈ srtP (dl L), PrOk p := by
  intro p hp
  have hp := (isr_mem (lt := ltP) (z := p) (dl L) []).1 hp
  rcases hp with hp | hp
  · cases hp
  · obtain ⟨h1, h2⟩ := List.mem_filter.1 hp
    obtain ⟨a, b⟩ := h p h1
    exact ⟨a, b, fun e => by rw [e] at h2; exact Bool.noConfusion h2⟩
theorem okAsc_tok {s : Bs} (h : tokB s = true) : okAsc (bl s) = true := by
  obtain ⟨_, h2, h3⟩ := tokB_iff.1 h
  unfold okAsc
  rw [bl_list, bl_size, Bool.and_eq_true, List.all_eq_true]
  exact ⟨Nat.ble_eq_true_of_le (by omega), fun c hc => decide_eq_true (tok_asc c (h3 c hc))⟩
theorem ascT_ok {X : Prop} (hX : X) : ∀ l : List Bs, (∀ s ∈ l, tokB s = true) → ascT (l.map bl) X
  | [], _ => hX
  | s :: l, h => need_mk (okAsc_tok (h s (by simp))) (ascT_ok hX l fun x hx => h x (by simp [hx]))
theorem chL_tok : ∀ {l : List (Bs × Bs)}, chL l = 0 → ∀ p ∈ l, tokB p.1 = true
  | [], _, p, hp => by cases hp
  | x :: r, h, p, hp => by
    unfold chL at h
    split at h
    · rename_i h1
      split at h
      · rcases List.mem_cons.1 hp with rfl | hp
        · exact h1
        · exact chL_tok h p hp
      · cases h
    · cases h
def noV (r : Rq) : Value := .tuple ⟨[rqV (noR r), .int .i64 (noE r)]⟩
theorem noV_err {r : Rq} {e : Int} (h : noE r = e) (he : e ≠ 0) : erV e = noV r := by
  subst h
  unfold noV noR
  rw [if_neg he]
  rfl
theorem noA_ok {r : Rq} (ok : OkR r) (hc : crE r = 0) {X : Prop} (hX : npE r.p = 0 → X) : noA (rqV r) (bl r.ho) (bl r.p) (fun v => v = noV r) X := by
  have hp := ok.p
  unfold noA
  rw [unR_rq, bl_list]
  refine need_mk (by rw [hc, okRq_iff.2 ⟨r, ok, rfl⟩]; rfl) (need_mk (by unfold inH; rw [bl_list]; simpa using ok.ho) (need_mk (LE2_bl (by omega)) ?_))
  by_cases h : npE r.p = 0
  · exact pick_f (by rw [h]; rfl) (hX h)
  · refine pick_t (by simpa using h) (noV_err ?_ h)
    unfold noE
    rw [if_pos hc, if_neg h]
theorem noP0_ok {r : Rq} (ok : OkR r) (hc : crE r = 0) (hn : npE r.p = 0) (he : pqL r.q = []) {X : ByteArray → Prop} (hX : noE r = 0 → X (bl (nq (pqL r.q)))) : noP0 (bl r.q) (fun v => v = noV r) X := by
  have hq := ok.q
  unfold noP0
  rw [bl_list, he]
  have hnq : nq [] = [] := rfl
  refine need_mk (by rw [LE2_bl (by omega)]; rfl) ?_
  by_cases h : pqE r.q = 0
  · refine pick_f (by rw [h]; rfl) ?_
    rw [he] at hX
    exact hX (by unfold noE; rw [if_pos hc, if_pos hn, if_pos h, he, hnq]; rfl)
  · refine pick_t (by simpa using h) (noV_err ?_ h)
    unfold noE
    rw [if_pos hc, if_pos hn, if_neg h]
theorem noP1_ok {r : Rq} (ok : OkR r) (hc : crE r = 0) (hn : npE r.p = 0) (he : pqL r.q ≠ []) {X : ByteArray → Prop} (hX : noE r = 0 → X (bl (nq (pqL r.q)))) : noP1 (bl r.q) (fun v => v = noV r) X := by
  have hq := ok.q
  have h0 : pqE r.q = 0 := by
    by_cases q : pqE r.q = 0
    · exact q
    · exact absurd (by unfold pqL; rw [if_neg q]) he
  have h4 := ok.qs h0
  have hle := dl_len (pqL r.q)
  have hp : 0 < (pqL r.q).length := List.length_pos_iff.2 he
  have hsl := srt_len (dl (pqL r.q))
  unfold noP1 noS
  rw [bl_list, unC_pr, unC_pr]
  have hb : LE2 (bl r.q) = true := LE2_bl (by omega)
  have hemp : (pqL r.q).isEmpty = false := by cases hx : pqL r.q with | nil => exact absurd hx he | cons a l => rfl
  refine need_mk (by rw [hb, hemp]; rfl) (need_mk ?_ (need_mk ?_ (need_mk ?_ ?_)))
  · rw [Nat.beq_refl, okC_iff.2 ⟨_, rfl, rfl⟩, Nat.ble_eq_true_of_le h4, Nat.ble_eq_true_of_le (show 1 ≤ (pqL r.q).length by omega)]; rfl
  · rw [Nat.beq_refl, okC_iff.2 ⟨_, rfl, rfl⟩, Nat.ble_eq_true_of_le (show (dl (pqL r.q)).length ≤ 4 by omega)]; rfl
  · have h1 : ((srtP (dl (pqL r.q))).flatMap prC).all p1 = true := List.all_eq_true.2 fun x hx => p1_prC x hx
    have h2 : Nat.ble ((dl (pqL r.q)).length * 2) (Array.mk ((srtP (dl (pqL r.q))).flatMap prC)).size = true := by
      rw [Nat.ble_eq]; show _ ≤ ((srtP (dl (pqL r.q))).flatMap prC).length; rw [prC_len, hsl]; exact Nat.le_refl _
    rw [h1, h2, Nat.beq_refl, Nat.ble_eq_true_of_le (Nat.le_refl _)]; rfl
  · have hch : chunk true 2 (dl (pqL r.q)).length ((srtP (dl (pqL r.q))).flatMap prC) = (srtP (dl (pqL r.q))).map prV := by rw [← hsl]; exact chunk_pr _
    rw [hch, unP_map]
    refine need_mk (okPs_iff.2 ⟨_, by omega, dl_ok pqL_le, rfl⟩) ?_
    have enq : qt (srtP (dl (pqL r.q))) = nq (pqL r.q) := rfl
    unfold qtE qtS
    rw [enq]
    by_cases hl : (nq (pqL r.q)).length > 1000
    · rw [if_pos hl]
      refine pick_t rfl (noV_err ?_ (by decide))
      unfold noE
      rw [if_pos hc, if_pos hn, if_pos h0, if_pos hl]
    · rw [if_neg hl, if_neg hl]
      refine pick_f rfl (hX ?_)
      unfold noE
      rw [if_pos hc, if_pos hn, if_pos h0, if_neg hl]
theorem noF_ok {r : Rq} (hc : crE r = 0) (h0 : noE r = 0) {hd : Value} {ns : List ByteArray} (hns : ns = (r.hs.map (·.1)).map bl) (hhd : hd = hdV (r.hs.map fun h => (Lib.toLowerA h.1, h.2))) :
    noF r.at_ (bl r.m) (bl r.ho) (bl r.p) (bl r.f) (bl r.bd) hd ns (fun v => v = noV r) (bl (nq (pqL r.q))) := by
  obtain ⟨c1, c2, c3, c4, c5, c6, c7, c8⟩ := crE_iff.1 hc
  obtain ⟨_, hch⟩ := chE_iff.1 c7
  subst hns hhd
  unfold noF
  refine need_mk (okAsc_tok c2) (ascT_ok ?_ _ ?_)
  · unfold noV noR nhS
    rw [if_pos h0, h0, bl_list, bl_list, bl_list]
    rfl
  · intro s hs
    obtain ⟨p, hp, rfl⟩ := List.mem_map.1 hs
    exact chL_tok hch p hp
theorem no_sh0 (r : Rq) (h5 : r.hs.length ≤ 5) (main : ∀ (hd : Value) (ns : List ByteArray), ns = (r.hs.map (·.1)).map bl → hd = hdV (r.hs.map fun h => (Lib.toLowerA h.1, h.2)) →
    noA (rqV r) (bl r.ho) (bl r.p) (fun v => v = noV r) (noP0 (bl r.q) (fun v => v = noV r) (noF r.at_ (bl r.m) (bl r.ho) (bl r.p) (bl r.f) (bl r.bd) hd ns (fun v => v = noV r)))) : FnOK 0 Tryz.prog 10 ⟨[rqV r]⟩ h0 (fun v _ => v = noV r) := by
  obtain ⟨a, m, ho, p, q, f, hs, b⟩ := r
  match hs, h5, main with
  | [], _, main =>
    have T := main (.slice none 0 0) [] rfl (by rfl)
    exact FnOK.ttree (SNm_ok 0 false) mixed Tryz.func10 someNO (loops_none _ _ _ _) (no0_0 a (bl m) (bl ho) (bl p) (bl q) (bl f) (bl b)  _) T
  | [(n0, v0)], _, main =>
    have T := main (fz ⟨[.agg ⟨[.string (bl (Lib.toLowerA (bl n0).data.toList)), .string (bl v0)]⟩]⟩) [bl n0] rfl (by simp only [bl_list]; rfl)
    exact FnOK.ttree (SNm_ok 0 false) mixed Tryz.func10 someNO (gh23) (no0_1 a (bl m) (bl ho) (bl p) (bl q) (bl f) (bl b) (bl n0) (bl v0) _) T
  | [(n0, v0), (n1, v1)], _, main =>
    have T := main (fz ⟨[.agg ⟨[.string (bl (Lib.toLowerA (bl n0).data.toList)), .string (bl v0)]⟩, .agg ⟨[.string (bl (Lib.toLowerA (bl n1).data.toList)), .string (bl v1)]⟩]⟩) [bl n0, bl n1] rfl (by simp only [bl_list]; rfl)
    exact FnOK.ttree (SNm_ok 0 false) mixed Tryz.func10 someNO (gh23) (no0_2 a (bl m) (bl ho) (bl p) (bl q) (bl f) (bl b) (bl n0) (bl v0) (bl n1) (bl v1) _) T
  | [(n0, v0), (n1, v1), (n2, v2)], _, main =>
    have T := main (fz ⟨[.agg ⟨[.string (bl (Lib.toLowerA (bl n0).data.toList)), .string (bl v0)]⟩, .agg ⟨[.string (bl (Lib.toLowerA (bl n1).data.toList)), .string (bl v1)]⟩, .agg ⟨[.string (bl (Lib.toLowerA (bl n2).data.toList)), .string (bl v2)]⟩]⟩) [bl n0, bl n1, bl n2] rfl (by simp only [bl_list]; rfl)
    exact FnOK.ttree (SNm_ok 0 false) mixed Tryz.func10 someNO (gh23) (no0_3 a (bl m) (bl ho) (bl p) (bl q) (bl f) (bl b) (bl n0) (bl v0) (bl n1) (bl v1) (bl n2) (bl v2) _) T
  | [(n0, v0), (n1, v1), (n2, v2), (n3, v3)], _, main =>
    have T := main (fz ⟨[.agg ⟨[.string (bl (Lib.toLowerA (bl n0).data.toList)), .string (bl v0)]⟩, .agg ⟨[.string (bl (Lib.toLowerA (bl n1).data.toList)), .string (bl v1)]⟩, .agg ⟨[.string (bl (Lib.toLowerA (bl n2).data.toList)), .string (bl v2)]⟩, .agg ⟨[.string (bl (Lib.toLowerA (bl n3).data.toList)), .string (bl v3)]⟩]⟩) [bl n0, bl n1, bl n2, bl n3] rfl (by simp only [bl_list]; rfl)
    exact FnOK.ttree (SNm_ok 0 false) mixed Tryz.func10 someNO (gh23) (no0_4 a (bl m) (bl ho) (bl p) (bl q) (bl f) (bl b) (bl n0) (bl v0) (bl n1) (bl v1) (bl n2) (bl v2) (bl n3) (bl v3) _) T
  | [(n0, v0), (n1, v1), (n2, v2), (n3, v3), (n4, v4)], _, main =>
    have T := main (fz ⟨[.agg ⟨[.string (bl (Lib.toLowerA (bl n0).data.toList)), .string (bl v0)]⟩, .agg ⟨[.string (bl (Lib.toLowerA (bl n1).data.toList)), .string (bl v1)]⟩, .agg ⟨[.string (bl (Lib.toLowerA (bl n2).data.toList)), .string (bl v2)]⟩, .agg ⟨[.string (bl (Lib.toLowerA (bl n3).data.toList)), .string (bl v3)]⟩, .agg ⟨[.string (bl (Lib.toLowerA (bl n4).data.toList)), .string (bl v4)]⟩]⟩) [bl n0, bl n1, bl n2, bl n3, bl n4] rfl (by simp only [bl_list]; rfl)
    exact FnOK.ttree (SNm_ok 0 false) mixed Tryz.func10 someNO (gh23) (no0_5 a (bl m) (bl ho) (bl p) (bl q) (bl f) (bl b) (bl n0) (bl v0) (bl n1) (bl v1) (bl n2) (bl v2) (bl n3) (bl v3) (bl n4) (bl v4) _) T
  | _ :: _ :: _ :: _ :: _ :: _ :: _, h, _ => exact absurd h (by simp)
theorem no_sh1 (r : Rq) (h5 : r.hs.length ≤ 5) (main : ∀ (hd : Value) (ns : List ByteArray), ns = (r.hs.map (·.1)).map bl → hd = hdV (r.hs.map fun h => (Lib.toLowerA h.1, h.2)) →
    noA (rqV r) (bl r.ho) (bl r.p) (fun v => v = noV r) (noP1 (bl r.q) (fun v => v = noV r) (noF r.at_ (bl r.m) (bl r.ho) (bl r.p) (bl r.f) (bl r.bd) hd ns (fun v => v = noV r)))) : FnOK 0 Tryz.prog 10 ⟨[rqV r]⟩ h0 (fun v _ => v = noV r) := by
  obtain ⟨a, m, ho, p, q, f, hs, b⟩ := r
  match hs, h5, main with
  | [], _, main =>
    have T := main (.slice none 0 0) [] rfl (by rfl)
    exact FnOK.ttree (SNm_ok 0 true) mixed Tryz.func10 someNO (gh12) (no1_0 a (bl m) (bl ho) (bl p) (bl q) (bl f) (bl b)  _) T
  | [(n0, v0)], _, main =>
    have T := main (fz ⟨[.agg ⟨[.string (bl (Lib.toLowerA (bl n0).data.toList)), .string (bl v0)]⟩]⟩) [bl n0] rfl (by simp only [bl_list]; rfl)
    exact FnOK.ttree (SNm_ok 0 true) mixed Tryz.func10 someNO (loops_or (gh12) (gh23)) (no1_1 a (bl m) (bl ho) (bl p) (bl q) (bl f) (bl b) (bl n0) (bl v0) _) T
  | [(n0, v0), (n1, v1)], _, main =>
    have T := main (fz ⟨[.agg ⟨[.string (bl (Lib.toLowerA (bl n0).data.toList)), .string (bl v0)]⟩, .agg ⟨[.string (bl (Lib.toLowerA (bl n1).data.toList)), .string (bl v1)]⟩]⟩) [bl n0, bl n1] rfl (by simp only [bl_list]; rfl)
    exact FnOK.ttree (SNm_ok 0 true) mixed Tryz.func10 someNO (loops_or (gh12) (gh23)) (no1_2 a (bl m) (bl ho) (bl p) (bl q) (bl f) (bl b) (bl n0) (bl v0) (bl n1) (bl v1) _) T
  | [(n0, v0), (n1, v1), (n2, v2)], _, main =>
    have T := main (fz ⟨[.agg ⟨[.string (bl (Lib.toLowerA (bl n0).data.toList)), .string (bl v0)]⟩, .agg ⟨[.string (bl (Lib.toLowerA (bl n1).data.toList)), .string (bl v1)]⟩, .agg ⟨[.string (bl (Lib.toLowerA (bl n2).data.toList)), .string (bl v2)]⟩]⟩) [bl n0, bl n1, bl n2] rfl (by simp only [bl_list]; rfl)
    exact FnOK.ttree (SNm_ok 0 true) mixed Tryz.func10 someNO (loops_or (gh12) (gh23)) (no1_3 a (bl m) (bl ho) (bl p) (bl q) (bl f) (bl b) (bl n0) (bl v0) (bl n1) (bl v1) (bl n2) (bl v2) _) T
  | [(n0, v0), (n1, v1), (n2, v2), (n3, v3)], _, main =>
    have T := main (fz ⟨[.agg ⟨[.string (bl (Lib.toLowerA (bl n0).data.toList)), .string (bl v0)]⟩, .agg ⟨[.string (bl (Lib.toLowerA (bl n1).data.toList)), .string (bl v1)]⟩, .agg ⟨[.string (bl (Lib.toLowerA (bl n2).data.toList)), .string (bl v2)]⟩, .agg ⟨[.string (bl (Lib.toLowerA (bl n3).data.toList)), .string (bl v3)]⟩]⟩) [bl n0, bl n1, bl n2, bl n3] rfl (by simp only [bl_list]; rfl)
    exact FnOK.ttree (SNm_ok 0 true) mixed Tryz.func10 someNO (loops_or (gh12) (gh23)) (no1_4 a (bl m) (bl ho) (bl p) (bl q) (bl f) (bl b) (bl n0) (bl v0) (bl n1) (bl v1) (bl n2) (bl v2) (bl n3) (bl v3) _) T
  | [(n0, v0), (n1, v1), (n2, v2), (n3, v3), (n4, v4)], _, main =>
    have T := main (fz ⟨[.agg ⟨[.string (bl (Lib.toLowerA (bl n0).data.toList)), .string (bl v0)]⟩, .agg ⟨[.string (bl (Lib.toLowerA (bl n1).data.toList)), .string (bl v1)]⟩, .agg ⟨[.string (bl (Lib.toLowerA (bl n2).data.toList)), .string (bl v2)]⟩, .agg ⟨[.string (bl (Lib.toLowerA (bl n3).data.toList)), .string (bl v3)]⟩, .agg ⟨[.string (bl (Lib.toLowerA (bl n4).data.toList)), .string (bl v4)]⟩]⟩) [bl n0, bl n1, bl n2, bl n3, bl n4] rfl (by simp only [bl_list]; rfl)
    exact FnOK.ttree (SNm_ok 0 true) mixed Tryz.func10 someNO (loops_or (gh12) (gh23)) (no1_5 a (bl m) (bl ho) (bl p) (bl q) (bl f) (bl b) (bl n0) (bl v0) (bl n1) (bl v1) (bl n2) (bl v2) (bl n3) (bl v3) (bl n4) (bl v4) _) T
  | _ :: _ :: _ :: _ :: _ :: _ :: _, h, _ => exact absurd h (by simp)
theorem no_fn {r : Rq} (ok : OkR r) : FnOK 0 Tryz.prog 10 ⟨[rqV r]⟩ h0 (fun v _ => v = noV r) := by
  have herr : ∀ e : Int, crE r = e → e ≠ 0 → (okRq (rqV r) && decide (crE (unR (rqV r)) = e)) = true ∧ erV e = noV r := by
    intro e h1 h2
    rw [unR_rq, h1, okRq_iff.2 ⟨r, ok, rfl⟩]
    refine ⟨by simp, noV_err ?_ h2⟩
    unfold noE
    rw [if_neg (by rw [h1]; exact h2)]
    exact h1
  rcases crE_in r with hc | hc | hc | hc | hc
  · obtain ⟨_, _, _, _, _, _, c7, _⟩ := crE_iff.1 hc
    obtain ⟨h50, _⟩ := chE_iff.1 c7
    have h5 : r.hs.length ≤ 5 := by have := ok.n; omega
    by_cases he : pqL r.q = []
    · have main : ∀ (hd : Value) (ns : List ByteArray), ns = (r.hs.map (·.1)).map bl → hd = hdV (r.hs.map fun h => (Lib.toLowerA h.1, h.2)) →
          noA (rqV r) (bl r.ho) (bl r.p) (fun v => v = noV r) (noP0 (bl r.q) (fun v => v = noV r) (noF r.at_ (bl r.m) (bl r.ho) (bl r.p) (bl r.f) (bl r.bd) hd ns (fun v => v = noV r))) :=
        fun hd ns h1 h2 => noA_ok ok hc fun hn => noP0_ok ok hc hn he fun h0 => noF_ok hc h0 h1 h2
      exact no_sh0 r h5 main
    · have main : ∀ (hd : Value) (ns : List ByteArray), ns = (r.hs.map (·.1)).map bl → hd = hdV (r.hs.map fun h => (Lib.toLowerA h.1, h.2)) →
          noA (rqV r) (bl r.ho) (bl r.p) (fun v => v = noV r) (noP1 (bl r.q) (fun v => v = noV r) (noF r.at_ (bl r.m) (bl r.ho) (bl r.p) (bl r.f) (bl r.bd) hd ns (fun v => v = noV r))) :=
        fun hd ns h1 h2 => noA_ok ok hc fun hn => noP1_ok ok hc hn he fun h0 => noF_ok hc h0 h1 h2
      exact no_sh1 r h5 main
  · obtain ⟨h1, h2⟩ := herr 1 hc (by decide)
    exact FnOK.ftree (SNm_ok 1 false) mixed Tryz.func10 someNO (noe1 r.at_ (bl r.m) (bl r.ho) (bl r.p) (bl r.q) (bl r.f) (bl r.bd) (hdV r.hs) (fun v => v = noV r)) (need_mk h1 h2)
  · obtain ⟨h1, h2⟩ := herr 2 hc (by decide)
    exact FnOK.ftree (SNm_ok 2 false) mixed Tryz.func10 someNO (noe2 r.at_ (bl r.m) (bl r.ho) (bl r.p) (bl r.q) (bl r.f) (bl r.bd) (hdV r.hs) (fun v => v = noV r)) (need_mk h1 h2)
  · obtain ⟨h1, h2⟩ := herr 3 hc (by decide)
    exact FnOK.ftree (SNm_ok 3 false) mixed Tryz.func10 someNO (noe3 r.at_ (bl r.m) (bl r.ho) (bl r.p) (bl r.q) (bl r.f) (bl r.bd) (hdV r.hs) (fun v => v = noV r)) (need_mk h1 h2)
  · obtain ⟨h1, h2⟩ := herr 5 hc (by decide)
    exact FnOK.ftree (SNm_ok 5 false) mixed Tryz.func10 someNO (noe5 r.at_ (bl r.m) (bl r.ho) (bl r.p) (bl r.q) (bl r.f) (bl r.bd) (hdV r.hs) (fun v => v = noV r)) (need_mk h1 h2)
noncomputable def spNr (f : FuncId) (args : Array Value) (h : AH) : Option (Bool × Value × AH) :=
  cond (Nat.beq f 10) (match args with
    | ⟨[v]⟩ => some (okRq v, noV (unR v), h)
    | _ => none) none
theorem spNr_ok : SpOK spNr := by
  intro f args h v h' hs
  unfold spNr at hs
  obtain ⟨hf, hs2⟩ := cond_some hs
  clear hs
  have := Nat.eq_of_beq_eq_true hf
  subst this
  split at hs2
  · injection hs2 with hs
    injection hs with hb hs
    injection hs with hv hh
    subst hv hh
    rename_i v
    obtain ⟨r, hr, rfl⟩ := okRq_iff.1 hb
    rw [unR_rq]
    exact ⟨FnOK.pure (no_fn hr) (by show (p2 _ && true) = true; rw [p2_rq]; rfl) (by unfold noV; generalize noR r = x; obtain ⟨_, _, _, _, _, _, hs, _⟩ := x; cases hs <;> rfl) h, Nat.le_refl _⟩
  · cases hs2
end Go.Proofs.YtnaeehnkabojdaaGreatDoor
