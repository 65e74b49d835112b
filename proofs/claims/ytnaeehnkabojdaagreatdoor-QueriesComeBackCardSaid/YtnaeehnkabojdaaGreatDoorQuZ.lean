/-
  Queries and requests: what the law asks, as specifications.
-/
import Derived.Test.YtnaeehnkabojdaaGreatDoorQuN
import Derived.Test.YtnaeehnkabojdaaGreatDoorQuR
namespace Go.Proofs.YtnaeehnkabojdaaGreatDoor
open Go.Ev Go.RowKit RecLaw PathLaw QueryLaw

/-! ParseQuery: a frozen list -/
theorem pqf2 (s : ByteArray) (cs : List Value) (k : Nat) (C : List Value → AH → Prop) (Q : Value → Prop) : tfn Tryz.prog SPq [] (hookOr (hook1 6 (hookLS 0 62 [5, 21, 22, 23] [0] [2, 3, 5] (fun vals h K => C vals h ∧ K (.exit 0) [anyV, anyV, .slice (some ⟨0, 0, none⟩) k k] (oP cs)))) (ghost1 18 (freezeG 62 true 2 [2]))) 900 [] Tryz.f8 [.string s] h0 (fun v _ => Q v) =
    pqS s Q fun vs => (C [.slice none 0 0, fz ⟨vs⟩, .int .i64 ((Array.mk vs).size : Int), .int .i64 0] h0 ∧
      bif decide ((k : Int) > 100) then Q (.tuple ⟨[.slice none 0 0, .int .i64 2]⟩) else
        bif ((true && Nat.beq k k && Nat.beq k k) && true) && cs.all p1 && Nat.ble k k && Nat.ble (k * 2) (Array.mk cs).size && true then Q (.tuple ⟨[fz ⟨chunk true 2 k cs⟩, .int .i64 0]⟩) else False) := by kernel_rfl
theorem gh18 : LoopsOK 0 Tryz.prog 62 (ghost1 18 (freezeG 62 true 2 [2])) (codeOf Tryz.f8) := ghosts_one (by kernel_rfl) (freezeG_ok _ _ _ _ _ _)
theorem pq_froz {s : Bs} (hs : s.length ≤ 20000) (h : pqL s ≠ []) : FnOK 0 Tryz.prog 8 ⟨[.string (bl s)]⟩ h0 (fun v _ => v = .tuple ⟨[fz ⟨(pqL s).map prV⟩, .int .i64 0]⟩) := by
  have he : pqE s = 0 := by
    by_cases q : pqE s = 0
    · exact q
    · exact absurd (by unfold pqL; rw [if_neg q]) h
  have hq : okQ s = true := by
    cases q : okQ s with
    | true => rfl
    | false => unfold pqE at he; rw [q] at he; cases he
  have hl := (okQ_iff.1 hq).1
  cases hp : prs (spl 38 s) with
  | none => unfold pqE at he; rw [if_pos hq, hp] at he; cases he
  | some L =>
    have hL : pqL s = L := by unfold pqL; rw [if_pos he, hp]; rfl
    have hn : L.length ≤ 100 := by
      unfold pqE at he
      rw [if_pos hq, hp] at he
      by_cases q : L.length ≤ 100
      · exact q
      · simp only [if_neg q] at he; cases he
    rw [hL] at h ⊢
    cases L with
    | nil => exact absurd rfl h
    | cons p L =>
      refine FnOK.ttree SPq_ok mixed Tryz.func8 somePQ (loops_or (loops_one onePQ (pq_key hl (fun K => K (.exit 0) [anyV, anyV, .slice (some ⟨0, 0, none⟩) (p :: L).length (p :: L).length] (oP ((p :: L).flatMap prC))) fun K hK => ⟨fun M hM => by (rw [hp] at hM; cases hM; exact hK), fun q => by rw [hp] at q; cases q⟩)) gh18) (pqf2 (bl s) ((p :: L).flatMap prC) (p :: L).length _ (fun v => v = .tuple ⟨[fz ⟨(p :: L).map prV⟩, .int .i64 0]⟩)) ?_
      refine pqS_mk hs (fun q => by rw [hq] at q; cases q) (fun _ => ⟨⟨rfl, rfl⟩, pick_f (decide_eq_false (by omega)) (need_mk ?_ ?_)⟩)
      · have h1 : ((p :: L).flatMap prC).all p1 = true := List.all_eq_true.2 fun x hx => p1_prC x hx
        have h2 : Nat.ble ((p :: L).length * 2) (Array.mk ((p :: L).flatMap prC)).size = true := by
          rw [Nat.ble_eq]; show _ ≤ ((p :: L).flatMap prC).length; rw [prC_len]; exact Nat.le_refl _
        rw [h1, h2, Nat.beq_refl, Nat.ble_eq_true_of_le (Nat.le_refl _)]; rfl
      · rw [chunk_pr]
noncomputable def spPqF (f : FuncId) (args : Array Value) (h : AH) : Option (Bool × Value × AH) :=
  cond (Nat.beq f 8) (match args with
    | ⟨[.string s]⟩ => some (LE2 s && !(pqL s.data.toList).isEmpty, .tuple ⟨[fz ⟨(pqL s.data.toList).map prV⟩, .int .i64 0]⟩, h)
    | _ => none) none
theorem spPqF_ok : SpOK spPqF := by
  intro f args h v h' hs
  unfold spPqF at hs
  obtain ⟨hf, hs2⟩ := cond_some hs
  clear hs
  have := Nat.eq_of_beq_eq_true hf
  subst this
  split at hs2
  · injection hs2 with hs
    injection hs with hb hs
    injection hs with hv hh
    subst hv hh
    rename_i s
    rw [Bool.and_eq_true] at hb
    have hne : pqL s.data.toList ≠ [] := fun q => by rw [q] at hb; exact Bool.noConfusion hb.2
    have := pq_froz (s := s.data.toList) (Nat.le_of_ble_eq_true hb.1) hne
    rw [bl_self] at this
    exact ⟨FnOK.pure this rfl rfl h, Nat.le_refl _⟩
  · cases hs2

/-! Equal -/
noncomputable def SNf : SC := ⟨idn, fun _ _ _ => none, false, true⟩
theorem SNf_ok : SNf.cfg.OK Tryz.prog := none_ok.cfg
def eqT (F : Prop) : List PB → Prop → Prop
  | [], K => K
  | p :: l, K => bif !(p.1 == p.1 && (p.2 == p.2 && true)) then F else eqT F l K
theorem ba_self (a : ByteArray) : (a == a) = true := by
  show (a.data == a.data) = true
  simp
theorem eqT_ok2 (F : Prop) {K : Prop} (hK : K) : ∀ L : List PB, eqT F L K
  | [] => hK
  | p :: l => pick_f (by rw [ba_self, ba_self]; rfl) (eqT_ok2 F hK l)
theorem eqP_e1 (a0 b0 : ByteArray) (Q : Value → Prop) : ffn Tryz.prog SNf [] 900 [] Tryz.f9 [fz ⟨[.agg ⟨[.string a0, .string b0]⟩]⟩, fz ⟨[.agg ⟨[.string a0, .string b0]⟩]⟩] h0 (fun v _ => Q v) = eqT (Q (.bool false)) [(a0, b0)] (Q (.bool true)) := by kernel_rfl
theorem eqP_e2 (a0 b0 a1 b1 : ByteArray) (Q : Value → Prop) : ffn Tryz.prog SNf [] 900 [] Tryz.f9 [fz ⟨[.agg ⟨[.string a0, .string b0]⟩, .agg ⟨[.string a1, .string b1]⟩]⟩, fz ⟨[.agg ⟨[.string a0, .string b0]⟩, .agg ⟨[.string a1, .string b1]⟩]⟩] h0 (fun v _ => Q v) = eqT (Q (.bool false)) [(a0, b0), (a1, b1)] (Q (.bool true)) := by kernel_rfl
theorem eqP_e3 (a0 b0 a1 b1 a2 b2 : ByteArray) (Q : Value → Prop) : ffn Tryz.prog SNf [] 900 [] Tryz.f9 [fz ⟨[.agg ⟨[.string a0, .string b0]⟩, .agg ⟨[.string a1, .string b1]⟩, .agg ⟨[.string a2, .string b2]⟩]⟩, fz ⟨[.agg ⟨[.string a0, .string b0]⟩, .agg ⟨[.string a1, .string b1]⟩, .agg ⟨[.string a2, .string b2]⟩]⟩] h0 (fun v _ => Q v) = eqT (Q (.bool false)) [(a0, b0), (a1, b1), (a2, b2)] (Q (.bool true)) := by kernel_rfl
theorem eqP_e4 (a0 b0 a1 b1 a2 b2 a3 b3 : ByteArray) (Q : Value → Prop) : ffn Tryz.prog SNf [] 900 [] Tryz.f9 [fz ⟨[.agg ⟨[.string a0, .string b0]⟩, .agg ⟨[.string a1, .string b1]⟩, .agg ⟨[.string a2, .string b2]⟩, .agg ⟨[.string a3, .string b3]⟩]⟩, fz ⟨[.agg ⟨[.string a0, .string b0]⟩, .agg ⟨[.string a1, .string b1]⟩, .agg ⟨[.string a2, .string b2]⟩, .agg ⟨[.string a3, .string b3]⟩]⟩] h0 (fun v _ => Q v) = eqT (Q (.bool false)) [(a0, b0), (a1, b1), (a2, b2), (a3, b3)] (Q (.bool true)) := by kernel_rfl
theorem eqP_some : Tryz.f9.body.isSome = true := by kernel_rfl
theorem eqP_fn : ∀ (L : List (Bs × Bs)), L ≠ [] → L.length ≤ 4 → FnOK 0 Tryz.prog 9 ⟨[fz ⟨L.map prV⟩, fz ⟨L.map prV⟩]⟩ h0 (fun v _ => v = .bool true)
  | [], h, _ => absurd rfl h
  | [p0], _, _ => FnOK.ftree SNf_ok mixed Tryz.func9 eqP_some (eqP_e1 (bl p0.1) (bl p0.2) _) (eqT_ok2 _ rfl _)
  | [p0, p1], _, _ => FnOK.ftree SNf_ok mixed Tryz.func9 eqP_some (eqP_e2 (bl p0.1) (bl p0.2) (bl p1.1) (bl p1.2) _) (eqT_ok2 _ rfl _)
  | [p0, p1, p2], _, _ => FnOK.ftree SNf_ok mixed Tryz.func9 eqP_some (eqP_e3 (bl p0.1) (bl p0.2) (bl p1.1) (bl p1.2) (bl p2.1) (bl p2.2) _) (eqT_ok2 _ rfl _)
  | [p0, p1, p2, p3], _, _ => FnOK.ftree SNf_ok mixed Tryz.func9 eqP_some (eqP_e4 (bl p0.1) (bl p0.2) (bl p1.1) (bl p1.2) (bl p2.1) (bl p2.2) (bl p3.1) (bl p3.2) _) (eqT_ok2 _ rfl _)
  | _ :: _ :: _ :: _ :: _ :: _, _, h => absurd h (by simp)
theorem eqH_e1 (a0 b0 : ByteArray) (Q : Value → Prop) : ffn Tryz.prog SNf [] 900 [] Tryz.f52 [fz ⟨[.agg ⟨[.string a0, .string b0]⟩]⟩, fz ⟨[.agg ⟨[.string a0, .string b0]⟩]⟩] h0 (fun v _ => Q v) = eqT (Q (.bool false)) [(a0, b0)] (Q (.bool true)) := by kernel_rfl
theorem eqH_e2 (a0 b0 a1 b1 : ByteArray) (Q : Value → Prop) : ffn Tryz.prog SNf [] 900 [] Tryz.f52 [fz ⟨[.agg ⟨[.string a0, .string b0]⟩, .agg ⟨[.string a1, .string b1]⟩]⟩, fz ⟨[.agg ⟨[.string a0, .string b0]⟩, .agg ⟨[.string a1, .string b1]⟩]⟩] h0 (fun v _ => Q v) = eqT (Q (.bool false)) [(a0, b0), (a1, b1)] (Q (.bool true)) := by kernel_rfl
theorem eqH_e3 (a0 b0 a1 b1 a2 b2 : ByteArray) (Q : Value → Prop) : ffn Tryz.prog SNf [] 900 [] Tryz.f52 [fz ⟨[.agg ⟨[.string a0, .string b0]⟩, .agg ⟨[.string a1, .string b1]⟩, .agg ⟨[.string a2, .string b2]⟩]⟩, fz ⟨[.agg ⟨[.string a0, .string b0]⟩, .agg ⟨[.string a1, .string b1]⟩, .agg ⟨[.string a2, .string b2]⟩]⟩] h0 (fun v _ => Q v) = eqT (Q (.bool false)) [(a0, b0), (a1, b1), (a2, b2)] (Q (.bool true)) := by kernel_rfl
theorem eqH_e4 (a0 b0 a1 b1 a2 b2 a3 b3 : ByteArray) (Q : Value → Prop) : ffn Tryz.prog SNf [] 900 [] Tryz.f52 [fz ⟨[.agg ⟨[.string a0, .string b0]⟩, .agg ⟨[.string a1, .string b1]⟩, .agg ⟨[.string a2, .string b2]⟩, .agg ⟨[.string a3, .string b3]⟩]⟩, fz ⟨[.agg ⟨[.string a0, .string b0]⟩, .agg ⟨[.string a1, .string b1]⟩, .agg ⟨[.string a2, .string b2]⟩, .agg ⟨[.string a3, .string b3]⟩]⟩] h0 (fun v _ => Q v) = eqT (Q (.bool false)) [(a0, b0), (a1, b1), (a2, b2), (a3, b3)] (Q (.bool true)) := by kernel_rfl
theorem eqH_e5 (a0 b0 a1 b1 a2 b2 a3 b3 a4 b4 : ByteArray) (Q : Value → Prop) : ffn Tryz.prog SNf [] 900 [] Tryz.f52 [fz ⟨[.agg ⟨[.string a0, .string b0]⟩, .agg ⟨[.string a1, .string b1]⟩, .agg ⟨[.string a2, .string b2]⟩, .agg ⟨[.string a3, .string b3]⟩, .agg ⟨[.string a4, .string b4]⟩]⟩, fz ⟨[.agg ⟨[.string a0, .string b0]⟩, .agg ⟨[.string a1, .string b1]⟩, .agg ⟨[.string a2, .string b2]⟩, .agg ⟨[.string a3, .string b3]⟩, .agg ⟨[.string a4, .string b4]⟩]⟩] h0 (fun v _ => Q v) = eqT (Q (.bool false)) [(a0, b0), (a1, b1), (a2, b2), (a3, b3), (a4, b4)] (Q (.bool true)) := by kernel_rfl
theorem eqH_some : Tryz.f52.body.isSome = true := by kernel_rfl
theorem eqH_fn : ∀ (L : List (Bs × Bs)), L ≠ [] → L.length ≤ 5 → FnOK 0 Tryz.prog 52 ⟨[fz ⟨L.map prV⟩, fz ⟨L.map prV⟩]⟩ h0 (fun v _ => v = .bool true)
  | [], h, _ => absurd rfl h
  | [p0], _, _ => FnOK.ftree SNf_ok mixed Tryz.func52 eqH_some (eqH_e1 (bl p0.1) (bl p0.2) _) (eqT_ok2 _ rfl _)
  | [p0, p1], _, _ => FnOK.ftree SNf_ok mixed Tryz.func52 eqH_some (eqH_e2 (bl p0.1) (bl p0.2) (bl p1.1) (bl p1.2) _) (eqT_ok2 _ rfl _)
  | [p0, p1, p2], _, _ => FnOK.ftree SNf_ok mixed Tryz.func52 eqH_some (eqH_e3 (bl p0.1) (bl p0.2) (bl p1.1) (bl p1.2) (bl p2.1) (bl p2.2) _) (eqT_ok2 _ rfl _)
  | [p0, p1, p2, p3], _, _ => FnOK.ftree SNf_ok mixed Tryz.func52 eqH_some (eqH_e4 (bl p0.1) (bl p0.2) (bl p1.1) (bl p1.2) (bl p2.1) (bl p2.2) (bl p3.1) (bl p3.2) _) (eqT_ok2 _ rfl _)
  | [p0, p1, p2, p3, p4], _, _ => FnOK.ftree SNf_ok mixed Tryz.func52 eqH_some (eqH_e5 (bl p0.1) (bl p0.2) (bl p1.1) (bl p1.2) (bl p2.1) (bl p2.2) (bl p3.1) (bl p3.2) (bl p4.1) (bl p4.2) _) (eqT_ok2 _ rfl _)
  | _ :: _ :: _ :: _ :: _ :: _ :: _, _, h => absurd h (by simp)
open Classical in
noncomputable def okEq (m : Nat) (vs ws : List Value) : Bool := @decide (vs = ws ∧ ∃ L : List (Bs × Bs), L ≠ [] ∧ L.length ≤ m ∧ vs = L.map prV) (Classical.propDecidable _)
open Classical in
theorem okEq_iff {m : Nat} {vs ws : List Value} : okEq m vs ws = true ↔ vs = ws ∧ ∃ L : List (Bs × Bs), L ≠ [] ∧ L.length ≤ m ∧ vs = L.map prV := by unfold okEq; exact @decide_eq_true_iff _ (Classical.propDecidable _)
noncomputable def spEqP (f : FuncId) (args : Array Value) (h : AH) : Option (Bool × Value × AH) :=
  cond (Nat.beq f 9) (match args with
    | ⟨[.func (.yield 0) ⟨vs⟩ ⟨[]⟩, .func (.yield 0) ⟨ws⟩ ⟨[]⟩]⟩ => some (okEq 4 vs ws, .bool true, h)
    | _ => none) none
theorem spEqP_ok : SpOK spEqP := by
  intro f args h v h' hs
  unfold spEqP at hs
  obtain ⟨hf, hs2⟩ := cond_some hs
  clear hs
  have := Nat.eq_of_beq_eq_true hf
  subst this
  split at hs2
  · injection hs2 with hs
    injection hs with hb hs
    injection hs with hv hh
    subst hv hh
    rename_i vs ws
    obtain ⟨rfl, L, h1, h2, rfl⟩ := okEq_iff.1 hb
    exact ⟨FnOK.pure (eqP_fn L h1 h2) rfl rfl h, Nat.le_refl _⟩
  · cases hs2
noncomputable def spEqH (f : FuncId) (args : Array Value) (h : AH) : Option (Bool × Value × AH) :=
  cond (Nat.beq f 52) (match args with
    | ⟨[.func (.yield 0) ⟨vs⟩ ⟨[]⟩, .func (.yield 0) ⟨ws⟩ ⟨[]⟩]⟩ => some (okEq 5 vs ws, .bool true, h)
    | _ => none) none
theorem spEqH_ok : SpOK spEqH := by
  intro f args h v h' hs
  unfold spEqH at hs
  obtain ⟨hf, hs2⟩ := cond_some hs
  clear hs
  have := Nat.eq_of_beq_eq_true hf
  subst this
  split at hs2
  · injection hs2 with hs
    injection hs with hb hs
    injection hs with hv hh
    subst hv hh
    rename_i vs ws
    obtain ⟨rfl, L, h1, h2, rfl⟩ := okEq_iff.1 hb
    exact ⟨FnOK.pure (eqH_fn L h1 h2) rfl rfl h, Nat.le_refl _⟩
  · cases hs2

/-! SameRequest -/
noncomputable def SSr : SC := ⟨idn, spEqH, true, true⟩
theorem SSr_ok : SSr.cfg.OK Tryz.prog := spEqH_ok.cfg
noncomputable def srE (a : Int) (m ho p q f b : ByteArray) (K F : Prop) : Prop :=
  bif a == a then bif m.toList == m.toList then bif ho.toList == ho.toList then bif p.toList == p.toList then bif q.toList == q.toList then bif f.toList == f.toList then bif b.toList == b.toList then K else F else F else F else F else F else F else F
theorem sr_n (a : Int) (m ho p q f b : ByteArray) (Q : Value → Prop) : ffn Tryz.prog SSr [] 900 [] Tryz.f13 [rV a m ho p q f b (.slice none 0 0), rV a m ho p q f b (.slice none 0 0)] h0 (fun v _ => Q v) =
    srE a m ho p q f b (Q (.bool true)) (Q (.bool false)) := by kernel_rfl
theorem sr_f (a : Int) (m ho p q f b : ByteArray) (vs : List Value) (Q : Value → Prop) : ffn Tryz.prog SSr [] 900 [] Tryz.f13 [rV a m ho p q f b (fz ⟨vs⟩), rV a m ho p q f b (fz ⟨vs⟩)] h0 (fun v _ => Q v) =
    srE a m ho p q f b (bif okEq 5 vs vs then Q (.bool true) else False) (Q (.bool false)) := by kernel_rfl
theorem someSR : Tryz.f13.body.isSome = true := by kernel_rfl
theorem srE_ok {a : Int} {m ho p q f b : ByteArray} {K F : Prop} (hK : K) : srE a m ho p q f b K F := by
  unfold srE
  simp only [beq_self_eq_true, cond_true]
  exact hK
theorem sr_fn2 {r : Rq} (h5 : r.hs.length ≤ 5) : FnOK 0 Tryz.prog 13 ⟨[rqV r, rqV r]⟩ h0 (fun v _ => v = .bool true) := by
  obtain ⟨a, m, ho, p, q, f, hs, b⟩ := r
  cases hs with
  | nil => exact FnOK.ftree SSr_ok mixed Tryz.func13 someSR (sr_n a (bl m) (bl ho) (bl p) (bl q) (bl f) (bl b) (fun v => v = .bool true)) (srE_ok rfl)
  | cons x l => exact FnOK.ftree SSr_ok mixed Tryz.func13 someSR (sr_f a (bl m) (bl ho) (bl p) (bl q) (bl f) (bl b) ((x :: l).map prV) (fun v => v = .bool true)) (srE_ok (need_mk (okEq_iff.2 ⟨rfl, x :: l, by simp, h5, rfl⟩) rfl))
open Classical in
noncomputable def okSr (v w : Value) : Bool := @decide (v = w ∧ ∃ r : Rq, r.hs.length ≤ 5 ∧ v = rqV r) (Classical.propDecidable _)
open Classical in
theorem okSr_iff {v w : Value} : okSr v w = true ↔ v = w ∧ ∃ r : Rq, r.hs.length ≤ 5 ∧ v = rqV r := by unfold okSr; exact @decide_eq_true_iff _ (Classical.propDecidable _)
noncomputable def spSr (f : FuncId) (args : Array Value) (h : AH) : Option (Bool × Value × AH) :=
  cond (Nat.beq f 13) (match args with
    | ⟨[v, w]⟩ => some (okSr v w, .bool true, h)
    | _ => none) none
theorem spSr_ok : SpOK spSr := by
  intro f args h v h' hs
  unfold spSr at hs
  obtain ⟨hf, hs2⟩ := cond_some hs
  clear hs
  have := Nat.eq_of_beq_eq_true hf
  subst this
  split at hs2
  · injection hs2 with hs
    injection hs with hb hs
    injection hs with hv hh
    subst hv hh
    rename_i v w
    obtain ⟨rfl, r, h5, rfl⟩ := okSr_iff.1 hb
    exact ⟨FnOK.pure (sr_fn2 h5) (by show (p2 _ && (p2 _ && true)) = true; rw [p2_rq]; rfl) rfl h, Nat.le_refl _⟩
  · cases hs2

/-! Normal, told -/
noncomputable def noT (e : Bool) (r : Rq) : Value := .tuple ⟨[rqT e (noR r), .int .i64 (noE r)]⟩
noncomputable def spNrT (e : Bool) (f : FuncId) (args : Array Value) (h : AH) : Option (Bool × Value × AH) :=
  cond (Nat.beq f 10) (match args with
    | ⟨[v]⟩ => some (okRq v && cond e (noR (unR v)).hs.isEmpty (!(noR (unR v)).hs.isEmpty), noT e (unR v), h)
    | _ => none) none
theorem spNrT_ok (e : Bool) : SpOK (spNrT e) := by
  intro f args h v h' hs
  unfold spNrT at hs
  obtain ⟨hf, hs2⟩ := cond_some hs
  clear hs
  have := Nat.eq_of_beq_eq_true hf
  subst this
  split at hs2
  · rename_i v
    injection hs2 with hs
    injection hs with hb hs
    injection hs with hv hh
    subst hv hh
    rw [Bool.and_eq_true] at hb
    obtain ⟨b1, b5⟩ := hb
    obtain ⟨r, hr, rfl⟩ := okRq_iff.1 b1
    rw [unR_rq] at b5 ⊢
    have he : noT e r = noV r := by
      unfold noT noV
      rw [← rqT_eq]
      cases e with
      | true => rw [show (noR r).hs.isEmpty = true from b5]
      | false =>
        have b5 : (!(noR r).hs.isEmpty) = true := b5
        rw [Bool.not_eq_true'] at b5
        rw [b5]
    rw [he]
    exact ⟨FnOK.pure (no_fn hr) (by show (p2 _ && true) = true; rw [p2_rq]; rfl) (by unfold noV; generalize noR r = x; obtain ⟨_, _, _, _, _, _, hs, _⟩ := x; cases hs <;> rfl) h, Nat.le_refl _⟩
  · cases hs2
end Go.Proofs.YtnaeehnkabojdaaGreatDoor
