/-
  Tokens stay: signers.
-/
import Derived.Test.YtklednomnpghcaaGreatDoorTsB
namespace Go.Proofs.YtklednomnpghcaaGreatDoor
open Go.Ev Go.RowKit

open Classical in
noncomputable def inSec (s : ByteArray) : Bool := @decide (s = ⟨#[111, 110, 101]⟩ ∨ s = ⟨#[116, 119, 111]⟩ ∨ s = ⟨#[107, 33]⟩) (Classical.propDecidable _)
open Classical in
theorem inSec_iff {s : ByteArray} : inSec s = true ↔ s = ⟨#[111, 110, 101]⟩ ∨ s = ⟨#[116, 119, 111]⟩ ∨ s = ⟨#[107, 33]⟩ := by unfold inSec; exact @decide_eq_true_iff _ (Classical.propDecidable _)
noncomputable def SC0 : SC := ⟨idn, fun _ _ _ => none, false, true⟩
theorem SC0_ok : SC0.cfg.OK Tryz.prog := none_ok.cfg
theorem someSEF : Tryz.f77.body.isSome = true := by kernel_rfl
theorem se0 (Q : Value → Prop) : ffn Tryz.prog SC0 [] 1000 [] Tryz.f77 [.string ⟨#[111, 110, 101]⟩] h0 (fun v _ => Q v) = Q (.int .i64 0) := by kernel_rfl
theorem se1 (Q : Value → Prop) : ffn Tryz.prog SC0 [] 1000 [] Tryz.f77 [.string ⟨#[116, 119, 111]⟩] h0 (fun v _ => Q v) = Q (.int .i64 0) := by kernel_rfl
theorem se2 (Q : Value → Prop) : ffn Tryz.prog SC0 [] 1000 [] Tryz.f77 [.string ⟨#[107, 33]⟩] h0 (fun v _ => Q v) = Q (.int .i64 0) := by kernel_rfl
noncomputable def spSe (f : FuncId) (args : Array Value) (h : AH) : Option (Bool × Value × AH) :=
  cond (Nat.beq f 77) (match args with
    | ⟨[.string s]⟩ => some (inSec s, .int .i64 0, h)
    | _ => none) none
theorem spSe_ok : SpOK spSe := by
  intro f args h v h' hs
  unfold spSe at hs
  obtain ⟨hf, hs2⟩ := cond_some hs
  clear hs
  have := Nat.eq_of_beq_eq_true hf
  subst this
  split at hs2
  · injection hs2 with hs
    injection hs with hb hs
    injection hs with hv hh
    subst hv hh
    rename_i s
    rcases inSec_iff.1 hb with rfl | rfl | rfl
    · exact ⟨FnOK.pure (FnOK.ftree SC0_ok mixed Tryz.func77 someSEF (se0 (fun v => v = .int .i64 0)) rfl) rfl rfl h, Nat.le_refl _⟩
    · exact ⟨FnOK.pure (FnOK.ftree SC0_ok mixed Tryz.func77 someSEF (se1 (fun v => v = .int .i64 0)) rfl) rfl rfl h, Nat.le_refl _⟩
    · exact ⟨FnOK.pure (FnOK.ftree SC0_ok mixed Tryz.func77 someSEF (se2 (fun v => v = .int .i64 0)) rfl) rfl rfl h, Nat.le_refl _⟩
  · cases hs2
noncomputable def SCs : SC := ⟨idn, spSe, false, true⟩
theorem SCs_ok : SCs.cfg.OK Tryz.prog := spSe_ok.cfg
noncomputable def csT : Option Int → List (ByteArray × Int × Int × Int) → (Int → Prop) → Prop
  | _, [], Q => Q 0
  | p, (x, f, t, u) :: l, Q => bif inSec x then bif decide (f < 0) then Q 1 else bif decide (f > t) then Q 1 else bif decide (t > u) then Q 1 else bif decide (u > 345686400000) then Q 1 else
    match p with
    | none => csT (some f) l Q
    | some g => bif decide (f < g) then Q 7 else csT (some f) l Q
    else False
theorem cs0  (Q : Value → Prop) : ffn Tryz.prog SCs [] 3000 [] Tryz.f56 [.slice none 0 0] h0 (fun v _ => Q v) = csT none [] (fun e => Q (.int .i64 e)) := by kernel_rfl
theorem cs1 (x0 : ByteArray) (f0 t0 u0 : Int) (Q : Value → Prop) : ffn Tryz.prog SCs [] 3000 [] Tryz.f56 [fz ⟨[.agg ⟨[.string ⟨#[115, 49]⟩, .string x0, .int .i64 f0, .int .i64 t0, .int .i64 u0]⟩]⟩] h0 (fun v _ => Q v) = csT none [(x0, f0, t0, u0)] (fun e => Q (.int .i64 e)) := by kernel_rfl
theorem cs2 (x0 x1 : ByteArray) (f0 t0 u0 f1 t1 u1 : Int) (Q : Value → Prop) : ffn Tryz.prog SCs [] 3000 [] Tryz.f56 [fz ⟨[.agg ⟨[.string ⟨#[115, 49]⟩, .string x0, .int .i64 f0, .int .i64 t0, .int .i64 u0]⟩, .agg ⟨[.string ⟨#[115, 50]⟩, .string x1, .int .i64 f1, .int .i64 t1, .int .i64 u1]⟩]⟩] h0 (fun v _ => Q v) = csT none [(x0, f0, t0, u0), (x1, f1, t1, u1)] (fun e => Q (.int .i64 e)) := by kernel_rfl
theorem cs3 (x0 x1 x2 : ByteArray) (f0 t0 u0 f1 t1 u1 f2 t2 u2 : Int) (Q : Value → Prop) : ffn Tryz.prog SCs [] 3000 [] Tryz.f56 [fz ⟨[.agg ⟨[.string ⟨#[115, 49]⟩, .string x0, .int .i64 f0, .int .i64 t0, .int .i64 u0]⟩, .agg ⟨[.string ⟨#[115, 50]⟩, .string x1, .int .i64 f1, .int .i64 t1, .int .i64 u1]⟩, .agg ⟨[.string ⟨#[115, 51]⟩, .string x2, .int .i64 f2, .int .i64 t2, .int .i64 u2]⟩]⟩] h0 (fun v _ => Q v) = csT none [(x0, f0, t0, u0), (x1, f1, t1, u1), (x2, f2, t2, u2)] (fun e => Q (.int .i64 e)) := by kernel_rfl
theorem someCS : Tryz.f56.body.isSome = true := by kernel_rfl
abbrev S4 : Type := ByteArray × Int × Int × Int
def sgV (id : ByteArray) (s : S4) : Value := .agg ⟨[.string id, .string s.1, .int .i64 s.2.1, .int .i64 s.2.2.1, .int .i64 s.2.2.2]⟩
def sgW : List S4 → Value
  | [] => .slice none 0 0
  | [s0] => fz ⟨[sgV ⟨#[115, 49]⟩ s0]⟩
  | [s0, s1] => fz ⟨[sgV ⟨#[115, 49]⟩ s0, sgV ⟨#[115, 50]⟩ s1]⟩
  | [s0, s1, s2] => fz ⟨[sgV ⟨#[115, 49]⟩ s0, sgV ⟨#[115, 50]⟩ s1, sgV ⟨#[115, 51]⟩ s2]⟩
  | _ => .slice none 0 0
/-- Right signers. -/
def SgOK : Option Int → List S4 → Prop
  | _, [] => True
  | p, s :: l => inSec s.1 = true ∧ 0 ≤ s.2.1 ∧ s.2.1 ≤ s.2.2.1 ∧ s.2.2.1 ≤ s.2.2.2 ∧ s.2.2.2 ≤ 5000 ∧ (∀ g, p = some g → g ≤ s.2.1) ∧ SgOK (some s.2.1) l
theorem csT_ok {Q : Int → Prop} (hQ : Q 0) : ∀ (l : List S4) (p : Option Int), SgOK p l → csT p l Q
  | [], _, _ => hQ
  | (x, f, t, u) :: l, p, ⟨h1, h2, h3, h4, h5, h6, h7⟩ => by
    simp only at h1 h2 h3 h4 h5 h6
    unfold csT
    refine need_mk h1 (pick_f (decide_eq_false (by omega)) (pick_f (decide_eq_false (by omega)) (pick_f (decide_eq_false (by omega)) (pick_f (decide_eq_false (by omega)) ?_))))
    cases p with
    | none => exact csT_ok hQ l _ h7
    | some g => have := h6 g rfl; exact pick_f (decide_eq_false (by omega)) (csT_ok hQ l _ h7)
theorem cs_fn : ∀ (l : List S4), SgOK none l → FnOK 0 Tryz.prog 56 ⟨[sgW l]⟩ h0 (fun v _ => v = .int .i64 0)
  | [], h => FnOK.ftree SCs_ok mixed Tryz.func56 someCS (cs0 (fun v => v = .int .i64 0)) (csT_ok (Q := fun e => Value.int .i64 e = .int .i64 0) rfl [] none h)
  | [(x0, f0, t0, u0)], h => FnOK.ftree SCs_ok mixed Tryz.func56 someCS (cs1 x0 f0 t0 u0 (fun v => v = .int .i64 0)) (csT_ok (Q := fun e => Value.int .i64 e = .int .i64 0) rfl [(x0, f0, t0, u0)] none h)
  | [(x0, f0, t0, u0), (x1, f1, t1, u1)], h => FnOK.ftree SCs_ok mixed Tryz.func56 someCS (cs2 x0 x1 f0 t0 u0 f1 t1 u1 (fun v => v = .int .i64 0)) (csT_ok (Q := fun e => Value.int .i64 e = .int .i64 0) rfl [(x0, f0, t0, u0), (x1, f1, t1, u1)] none h)
  | [(x0, f0, t0, u0), (x1, f1, t1, u1), (x2, f2, t2, u2)], h => FnOK.ftree SCs_ok mixed Tryz.func56 someCS (cs3 x0 x1 x2 f0 t0 u0 f1 t1 u1 f2 t2 u2 (fun v => v = .int .i64 0)) (csT_ok (Q := fun e => Value.int .i64 e = .int .i64 0) rfl [(x0, f0, t0, u0), (x1, f1, t1, u1), (x2, f2, t2, u2)] none h)
  | _ :: _ :: _ :: _ :: l, _ => FnOK.ftree SCs_ok mixed Tryz.func56 someCS (cs0 (fun v => v = .int .i64 0)) rfl
theorem sgW_p1 : ∀ l : List S4, p1 (sgW l) = true
  | [] => rfl
  | [_] => rfl
  | [_, _] => rfl
  | [_, _, _] => rfl
  | _ :: _ :: _ :: _ :: _ => rfl
/-! Rotate -/
noncomputable def SRo (l : List S4) : SC := ⟨idn, spT 56 [sgW l] (.int .i64 0), false, true⟩
theorem SRo_ok {l : List S4} (h : SgOK none l) : (SRo l).cfg.OK Tryz.prog := (spT_ok (cs_fn l h) (by
  show (p2 _ && true) = true
  match l with
  | [] => rfl
  | [_] => rfl
  | [_, _] => rfl
  | [_, _, _] => rfl
  | _ :: _ :: _ :: _ :: _ => rfl) rfl).cfg
def blkT : Value → Nat
  | .tuple ⟨[.slice (some a) _ _, _]⟩ => a.block
  | _ => 999999
def mnI (a b : Int) : Int := if b < a then b else a
def roA : List Value := [.string ⟨#[115, 57]⟩, .string ⟨#[107, 101, 121]⟩, .int .i64 5000, .int .i64 10, .int .i64 10]
theorem ro0  (Q : Value → Option Obj → Prop) : ffn Tryz.prog (SRo []) [] 3000 [] Tryz.f12 (.slice none 0 0 :: roA) h0 (fun v h => Q v (h.get (blkT v))) =
    bif tq [sgW []] [sgW []] then Q (.tuple ⟨[.slice (some ⟨2, 0, none⟩) 1 1, .int .i64 0]⟩) (some (.cells ⟨[.string ⟨#[115, 57]⟩, .string ⟨#[107, 101, 121]⟩, .int .i64 5000, .int .i64 5010, .int .i64 5020]⟩ 44 (0, 0))) else False := by kernel_rfl
theorem ro1 (x0 : ByteArray) (f0 t0 u0 : Int) (Q : Value → Option Obj → Prop) : ffn Tryz.prog (SRo [(x0, f0, t0, u0)]) [] 3000 [] Tryz.f12 (fz ⟨[.agg ⟨[.string ⟨#[115, 49]⟩, .string x0, .int .i64 f0, .int .i64 t0, .int .i64 u0]⟩]⟩ :: roA) h0 (fun v h => Q v (h.get (blkT v))) =
    bif tq [sgW [(x0, f0, t0, u0)]] [sgW [(x0, f0, t0, u0)]] then bif decide (5000 < f0) then Q (.tuple ⟨[.slice none 0 0, .int .i64 7]⟩) none else Q (.tuple ⟨[.slice (some ⟨6, 0, none⟩) 2 2, .int .i64 0]⟩) (some (.cells ⟨[.string ⟨#[115, 49]⟩, .string x0, .int .i64 f0, .int .i64 (mnI t0 5000), .int .i64 u0] ++ [.string ⟨#[115, 57]⟩, .string ⟨#[107, 101, 121]⟩, .int .i64 5000, .int .i64 5010, .int .i64 5020]⟩ 44 (0, 0))) else False := by kernel_rfl
theorem ro2 (x0 x1 : ByteArray) (f0 t0 u0 f1 t1 u1 : Int) (Q : Value → Option Obj → Prop) : ffn Tryz.prog (SRo [(x0, f0, t0, u0), (x1, f1, t1, u1)]) [] 3000 [] Tryz.f12 (fz ⟨[.agg ⟨[.string ⟨#[115, 49]⟩, .string x0, .int .i64 f0, .int .i64 t0, .int .i64 u0]⟩, .agg ⟨[.string ⟨#[115, 50]⟩, .string x1, .int .i64 f1, .int .i64 t1, .int .i64 u1]⟩]⟩ :: roA) h0 (fun v h => Q v (h.get (blkT v))) =
    bif tq [sgW [(x0, f0, t0, u0), (x1, f1, t1, u1)]] [sgW [(x0, f0, t0, u0), (x1, f1, t1, u1)]] then bif decide (5000 < f1) then Q (.tuple ⟨[.slice none 0 0, .int .i64 7]⟩) none else Q (.tuple ⟨[.slice (some ⟨8, 0, none⟩) 3 3, .int .i64 0]⟩) (some (.cells ⟨[.string ⟨#[115, 49]⟩, .string x0, .int .i64 f0, .int .i64 (mnI t0 5000), .int .i64 u0] ++ [.string ⟨#[115, 50]⟩, .string x1, .int .i64 f1, .int .i64 (mnI t1 5000), .int .i64 u1] ++ [.string ⟨#[115, 57]⟩, .string ⟨#[107, 101, 121]⟩, .int .i64 5000, .int .i64 5010, .int .i64 5020]⟩ 44 (0, 0))) else False := by kernel_rfl
theorem ro3 (x0 x1 x2 : ByteArray) (f0 t0 u0 f1 t1 u1 f2 t2 u2 : Int) (Q : Value → Option Obj → Prop) : ffn Tryz.prog (SRo [(x0, f0, t0, u0), (x1, f1, t1, u1), (x2, f2, t2, u2)]) [] 3000 [] Tryz.f12 (fz ⟨[.agg ⟨[.string ⟨#[115, 49]⟩, .string x0, .int .i64 f0, .int .i64 t0, .int .i64 u0]⟩, .agg ⟨[.string ⟨#[115, 50]⟩, .string x1, .int .i64 f1, .int .i64 t1, .int .i64 u1]⟩, .agg ⟨[.string ⟨#[115, 51]⟩, .string x2, .int .i64 f2, .int .i64 t2, .int .i64 u2]⟩]⟩ :: roA) h0 (fun v h => Q v (h.get (blkT v))) =
    bif tq [sgW [(x0, f0, t0, u0), (x1, f1, t1, u1), (x2, f2, t2, u2)]] [sgW [(x0, f0, t0, u0), (x1, f1, t1, u1), (x2, f2, t2, u2)]] then bif decide (5000 < f2) then Q (.tuple ⟨[.slice none 0 0, .int .i64 7]⟩) none else Q (.tuple ⟨[.slice (some ⟨10, 0, none⟩) 4 4, .int .i64 0]⟩) (some (.cells ⟨[.string ⟨#[115, 49]⟩, .string x0, .int .i64 f0, .int .i64 (mnI t0 5000), .int .i64 u0] ++ [.string ⟨#[115, 50]⟩, .string x1, .int .i64 f1, .int .i64 (mnI t1 5000), .int .i64 u1] ++ [.string ⟨#[115, 51]⟩, .string x2, .int .i64 f2, .int .i64 (mnI t2 5000), .int .i64 u2] ++ [.string ⟨#[115, 57]⟩, .string ⟨#[107, 101, 121]⟩, .int .i64 5000, .int .i64 5010, .int .i64 5020]⟩ 44 (0, 0))) else False := by kernel_rfl
theorem someROT : Tryz.f12.body.isSome = true := by kernel_rfl
theorem ro_fn : ∀ (l : List S4), SgOK none l → ∃ n c cs, RowOK 12 (sgW l :: roA) (slE n c) cs 44 ∧ OKZ 4 5 n cs
  | [], h => by
    refine ⟨1, 1, [.string ⟨#[115, 57]⟩, .string ⟨#[107, 101, 121]⟩, .int .i64 5000, .int .i64 5010, .int .i64 5020], FnOK.mono (FnOK.ftree (SRo_ok h) mixed Tryz.func12 someROT (ro0 (fun v o => v = slE 1 1 2 ∧ o = some (.cells ⟨[.string ⟨#[115, 57]⟩, .string ⟨#[107, 101, 121]⟩, .int .i64 5000, .int .i64 5010, .int .i64 5020]⟩ 44 (0, 0)))) (need_mk (tq_eq rfl) ⟨rfl, rfl⟩)) ?_, Nat.le_of_ble_eq_true rfl, Nat.le_of_ble_eq_true rfl, List.all_eq_true.1 rfl⟩
    rintro v g ⟨rfl, hg⟩
    exact ⟨2, rfl, hg⟩
  | [(x0, f0, t0, u0)], h => by
    refine ⟨2, 2, [.string ⟨#[115, 49]⟩, .string x0, .int .i64 f0, .int .i64 (mnI t0 5000), .int .i64 u0] ++ [.string ⟨#[115, 57]⟩, .string ⟨#[107, 101, 121]⟩, .int .i64 5000, .int .i64 5010, .int .i64 5020], FnOK.mono (FnOK.ftree (SRo_ok h) mixed Tryz.func12 someROT (ro1 x0 f0 t0 u0 (fun v o => v = slE 2 2 6 ∧ o = some (.cells ⟨[.string ⟨#[115, 49]⟩, .string x0, .int .i64 f0, .int .i64 (mnI t0 5000), .int .i64 u0] ++ [.string ⟨#[115, 57]⟩, .string ⟨#[107, 101, 121]⟩, .int .i64 5000, .int .i64 5010, .int .i64 5020]⟩ 44 (0, 0)))) (need_mk (tq_eq rfl) (pick_f (decide_eq_false (by simp only [SgOK] at h; omega)) ⟨rfl, rfl⟩))) ?_, Nat.le_of_ble_eq_true rfl, Nat.le_of_ble_eq_true rfl, List.all_eq_true.1 rfl⟩
    rintro v g ⟨rfl, hg⟩
    exact ⟨6, rfl, hg⟩
  | [(x0, f0, t0, u0), (x1, f1, t1, u1)], h => by
    refine ⟨3, 3, [.string ⟨#[115, 49]⟩, .string x0, .int .i64 f0, .int .i64 (mnI t0 5000), .int .i64 u0] ++ [.string ⟨#[115, 50]⟩, .string x1, .int .i64 f1, .int .i64 (mnI t1 5000), .int .i64 u1] ++ [.string ⟨#[115, 57]⟩, .string ⟨#[107, 101, 121]⟩, .int .i64 5000, .int .i64 5010, .int .i64 5020], FnOK.mono (FnOK.ftree (SRo_ok h) mixed Tryz.func12 someROT (ro2 x0 x1 f0 t0 u0 f1 t1 u1 (fun v o => v = slE 3 3 8 ∧ o = some (.cells ⟨[.string ⟨#[115, 49]⟩, .string x0, .int .i64 f0, .int .i64 (mnI t0 5000), .int .i64 u0] ++ [.string ⟨#[115, 50]⟩, .string x1, .int .i64 f1, .int .i64 (mnI t1 5000), .int .i64 u1] ++ [.string ⟨#[115, 57]⟩, .string ⟨#[107, 101, 121]⟩, .int .i64 5000, .int .i64 5010, .int .i64 5020]⟩ 44 (0, 0)))) (need_mk (tq_eq rfl) (pick_f (decide_eq_false (by simp only [SgOK] at h; omega)) ⟨rfl, rfl⟩))) ?_, Nat.le_of_ble_eq_true rfl, Nat.le_of_ble_eq_true rfl, List.all_eq_true.1 rfl⟩
    rintro v g ⟨rfl, hg⟩
    exact ⟨8, rfl, hg⟩
  | [(x0, f0, t0, u0), (x1, f1, t1, u1), (x2, f2, t2, u2)], h => by
    refine ⟨4, 4, [.string ⟨#[115, 49]⟩, .string x0, .int .i64 f0, .int .i64 (mnI t0 5000), .int .i64 u0] ++ [.string ⟨#[115, 50]⟩, .string x1, .int .i64 f1, .int .i64 (mnI t1 5000), .int .i64 u1] ++ [.string ⟨#[115, 51]⟩, .string x2, .int .i64 f2, .int .i64 (mnI t2 5000), .int .i64 u2] ++ [.string ⟨#[115, 57]⟩, .string ⟨#[107, 101, 121]⟩, .int .i64 5000, .int .i64 5010, .int .i64 5020], FnOK.mono (FnOK.ftree (SRo_ok h) mixed Tryz.func12 someROT (ro3 x0 x1 x2 f0 t0 u0 f1 t1 u1 f2 t2 u2 (fun v o => v = slE 4 4 10 ∧ o = some (.cells ⟨[.string ⟨#[115, 49]⟩, .string x0, .int .i64 f0, .int .i64 (mnI t0 5000), .int .i64 u0] ++ [.string ⟨#[115, 50]⟩, .string x1, .int .i64 f1, .int .i64 (mnI t1 5000), .int .i64 u1] ++ [.string ⟨#[115, 51]⟩, .string x2, .int .i64 f2, .int .i64 (mnI t2 5000), .int .i64 u2] ++ [.string ⟨#[115, 57]⟩, .string ⟨#[107, 101, 121]⟩, .int .i64 5000, .int .i64 5010, .int .i64 5020]⟩ 44 (0, 0)))) (need_mk (tq_eq rfl) (pick_f (decide_eq_false (by simp only [SgOK] at h; omega)) ⟨rfl, rfl⟩))) ?_, Nat.le_of_ble_eq_true rfl, Nat.le_of_ble_eq_true rfl, List.all_eq_true.1 rfl⟩
    rintro v g ⟨rfl, hg⟩
    exact ⟨10, rfl, hg⟩
  | _ :: _ :: _ :: _ :: l, _ => ro_fn [] trivial
/-! Equal -/
theorem ba_self (a : ByteArray) : (a == a) = true := by
  show (a.data == a.data) = true
  simp
noncomputable def eqG : List (ByteArray × S4) → (Bool → Prop) → Prop
  | [], Q => Q true
  | (id, x, f, t, u) :: l, Q => bif !(id == id && (x == x && (f == f && (t == t && (u == u && true))))) then Q false else eqG l Q
theorem eqG_ok {Q : Bool → Prop} (hQ : Q true) : ∀ l : List (ByteArray × S4), eqG l Q
  | [] => hQ
  | (id, x, f, t, u) :: l => pick_f (by simp only [ba_self, beq_self_eq_true, Bool.and_self, Bool.not_true]) (eqG_ok hQ l)
theorem someEQG : Tryz.f19.body.isSome = true := by kernel_rfl
theorem eq0  (Q : Value → Prop) : ffn Tryz.prog SC0 [] 3000 [] Tryz.f19 [.slice none 0 0, .slice none 0 0] h0 (fun v _ => Q v) = eqG [] (fun b => Q (.bool b)) := by kernel_rfl
theorem eq1 (x0 : ByteArray) (f0 t0 u0 : Int) (Q : Value → Prop) : ffn Tryz.prog SC0 [] 3000 [] Tryz.f19 [fz ⟨[.agg ⟨[.string ⟨#[115, 49]⟩, .string x0, .int .i64 f0, .int .i64 t0, .int .i64 u0]⟩]⟩, fz ⟨[.agg ⟨[.string ⟨#[115, 49]⟩, .string x0, .int .i64 f0, .int .i64 t0, .int .i64 u0]⟩]⟩] h0 (fun v _ => Q v) = eqG [(⟨#[115, 49]⟩, x0, f0, t0, u0)] (fun b => Q (.bool b)) := by kernel_rfl
theorem eq2 (x0 x1 : ByteArray) (f0 t0 u0 f1 t1 u1 : Int) (Q : Value → Prop) : ffn Tryz.prog SC0 [] 3000 [] Tryz.f19 [fz ⟨[.agg ⟨[.string ⟨#[115, 49]⟩, .string x0, .int .i64 f0, .int .i64 t0, .int .i64 u0]⟩, .agg ⟨[.string ⟨#[115, 50]⟩, .string x1, .int .i64 f1, .int .i64 t1, .int .i64 u1]⟩]⟩, fz ⟨[.agg ⟨[.string ⟨#[115, 49]⟩, .string x0, .int .i64 f0, .int .i64 t0, .int .i64 u0]⟩, .agg ⟨[.string ⟨#[115, 50]⟩, .string x1, .int .i64 f1, .int .i64 t1, .int .i64 u1]⟩]⟩] h0 (fun v _ => Q v) = eqG [(⟨#[115, 49]⟩, x0, f0, t0, u0), (⟨#[115, 50]⟩, x1, f1, t1, u1)] (fun b => Q (.bool b)) := by kernel_rfl
theorem eq3 (x0 x1 x2 : ByteArray) (f0 t0 u0 f1 t1 u1 f2 t2 u2 : Int) (Q : Value → Prop) : ffn Tryz.prog SC0 [] 3000 [] Tryz.f19 [fz ⟨[.agg ⟨[.string ⟨#[115, 49]⟩, .string x0, .int .i64 f0, .int .i64 t0, .int .i64 u0]⟩, .agg ⟨[.string ⟨#[115, 50]⟩, .string x1, .int .i64 f1, .int .i64 t1, .int .i64 u1]⟩, .agg ⟨[.string ⟨#[115, 51]⟩, .string x2, .int .i64 f2, .int .i64 t2, .int .i64 u2]⟩]⟩, fz ⟨[.agg ⟨[.string ⟨#[115, 49]⟩, .string x0, .int .i64 f0, .int .i64 t0, .int .i64 u0]⟩, .agg ⟨[.string ⟨#[115, 50]⟩, .string x1, .int .i64 f1, .int .i64 t1, .int .i64 u1]⟩, .agg ⟨[.string ⟨#[115, 51]⟩, .string x2, .int .i64 f2, .int .i64 t2, .int .i64 u2]⟩]⟩] h0 (fun v _ => Q v) = eqG [(⟨#[115, 49]⟩, x0, f0, t0, u0), (⟨#[115, 50]⟩, x1, f1, t1, u1), (⟨#[115, 51]⟩, x2, f2, t2, u2)] (fun b => Q (.bool b)) := by kernel_rfl
theorem eqg_fn : ∀ (l : List S4), FnOK 0 Tryz.prog 19 ⟨[sgW l, sgW l]⟩ h0 (fun v _ => v = .bool true)
  | [] => FnOK.ftree SC0_ok mixed Tryz.func19 someEQG (eq0 (fun v => v = .bool true)) (eqG_ok (Q := fun b => Value.bool b = .bool true) rfl _)
  | [(x0, f0, t0, u0)] => FnOK.ftree SC0_ok mixed Tryz.func19 someEQG (eq1 x0 f0 t0 u0 (fun v => v = .bool true)) (eqG_ok (Q := fun b => Value.bool b = .bool true) rfl _)
  | [(x0, f0, t0, u0), (x1, f1, t1, u1)] => FnOK.ftree SC0_ok mixed Tryz.func19 someEQG (eq2 x0 x1 f0 t0 u0 f1 t1 u1 (fun v => v = .bool true)) (eqG_ok (Q := fun b => Value.bool b = .bool true) rfl _)
  | [(x0, f0, t0, u0), (x1, f1, t1, u1), (x2, f2, t2, u2)] => FnOK.ftree SC0_ok mixed Tryz.func19 someEQG (eq3 x0 x1 x2 f0 t0 u0 f1 t1 u1 f2 t2 u2 (fun v => v = .bool true)) (eqG_ok (Q := fun b => Value.bool b = .bool true) rfl _)
  | _ :: _ :: _ :: _ :: l => FnOK.ftree SC0_ok mixed Tryz.func19 someEQG (eq0 (fun v => v = .bool true)) rfl
end Go.Proofs.YtklednomnpghcaaGreatDoor
