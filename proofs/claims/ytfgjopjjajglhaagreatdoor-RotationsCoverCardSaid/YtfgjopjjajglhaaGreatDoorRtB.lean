/-
  Signers in a row: CheckSigners, Rotate.
-/
import Derived.Test.YtfgjopjjajglhaaGreatDoorRtA
namespace Go.Proofs.YtfgjopjjajglhaaGreatDoor
open Go.Ev Go.RowKit RotLaw

def idS : Nat → ByteArray
  | 0 => ⟨#[115, 49]⟩
  | 1 => ⟨#[115, 50]⟩
  | 2 => ⟨#[115, 51]⟩
  | _ => ⟨#[115, 52]⟩
def keyS : ByteArray := ⟨#[107, 101, 121]⟩
def svW (s : Sg) : Sw := ⟨idS s.id, keyS, s.fr, s.to, s.un⟩
def svV (s : Sg) : Value := .agg ⟨[.string (idS s.id), .string keyS, .int .i64 s.fr, .int .i64 s.to, .int .i64 s.un]⟩
theorem svV_w (s : Sg) : svV s = swV (svW s) := rfl
noncomputable def SC0 : SC := ⟨idn, fun _ _ _ => none, false, true⟩
theorem SC0_ok : SC0.cfg.OK Tryz.prog := none_ok.cfg
def csT : Option Int → List (Int × Int × Int) → (Int → Prop) → Prop
  | _, [], Q => Q 0
  | p, (f, t, u) :: l, Q => bif decide (f < 0) then Q 1 else bif decide (f > t) then Q 1 else bif decide (t > u) then Q 1 else bif decide (u > 345686400000) then Q 1 else
    match p with
    | none => csT (some f) l Q
    | some g => bif decide (f < g) then Q 7 else csT (some f) l Q
theorem cs1 (f0 t0 u0 : Int) (Q : Value → Prop) : ffn Tryz.prog SC0 [] 3000 [] Tryz.f8 [fz ⟨[.agg ⟨[.string ⟨#[115, 49]⟩, .string ⟨#[107, 101, 121]⟩, .int .i64 f0, .int .i64 t0, .int .i64 u0]⟩]⟩] h0 (fun v _ => Q v) = csT none [(f0, t0, u0)] (fun e => Q (.int .i64 e)) := by kernel_rfl
theorem cs2 (f0 t0 u0 f1 t1 u1 : Int) (Q : Value → Prop) : ffn Tryz.prog SC0 [] 3000 [] Tryz.f8 [fz ⟨[.agg ⟨[.string ⟨#[115, 49]⟩, .string ⟨#[107, 101, 121]⟩, .int .i64 f0, .int .i64 t0, .int .i64 u0]⟩, .agg ⟨[.string ⟨#[115, 50]⟩, .string ⟨#[107, 101, 121]⟩, .int .i64 f1, .int .i64 t1, .int .i64 u1]⟩]⟩] h0 (fun v _ => Q v) = csT none [(f0, t0, u0), (f1, t1, u1)] (fun e => Q (.int .i64 e)) := by kernel_rfl
theorem cs3 (f0 t0 u0 f1 t1 u1 f2 t2 u2 : Int) (Q : Value → Prop) : ffn Tryz.prog SC0 [] 3000 [] Tryz.f8 [fz ⟨[.agg ⟨[.string ⟨#[115, 49]⟩, .string ⟨#[107, 101, 121]⟩, .int .i64 f0, .int .i64 t0, .int .i64 u0]⟩, .agg ⟨[.string ⟨#[115, 50]⟩, .string ⟨#[107, 101, 121]⟩, .int .i64 f1, .int .i64 t1, .int .i64 u1]⟩, .agg ⟨[.string ⟨#[115, 51]⟩, .string ⟨#[107, 101, 121]⟩, .int .i64 f2, .int .i64 t2, .int .i64 u2]⟩]⟩] h0 (fun v _ => Q v) = csT none [(f0, t0, u0), (f1, t1, u1), (f2, t2, u2)] (fun e => Q (.int .i64 e)) := by kernel_rfl
theorem cs4 (f0 t0 u0 f1 t1 u1 f2 t2 u2 f3 t3 u3 : Int) (Q : Value → Prop) : ffn Tryz.prog SC0 [] 3000 [] Tryz.f8 [fz ⟨[.agg ⟨[.string ⟨#[115, 49]⟩, .string ⟨#[107, 101, 121]⟩, .int .i64 f0, .int .i64 t0, .int .i64 u0]⟩, .agg ⟨[.string ⟨#[115, 50]⟩, .string ⟨#[107, 101, 121]⟩, .int .i64 f1, .int .i64 t1, .int .i64 u1]⟩, .agg ⟨[.string ⟨#[115, 51]⟩, .string ⟨#[107, 101, 121]⟩, .int .i64 f2, .int .i64 t2, .int .i64 u2]⟩, .agg ⟨[.string ⟨#[115, 52]⟩, .string ⟨#[107, 101, 121]⟩, .int .i64 f3, .int .i64 t3, .int .i64 u3]⟩]⟩] h0 (fun v _ => Q v) = csT none [(f0, t0, u0), (f1, t1, u1), (f2, t2, u2), (f3, t3, u3)] (fun e => Q (.int .i64 e)) := by kernel_rfl
theorem someCS : Tryz.f8.body.isSome = true := by kernel_rfl
/-- A good row. -/
def Good (life : Int) (A : List Int) : Prop := Ch A ∧ 0 ≤ life ∧ life ≤ 50
def gV (life : Int) (A : List Int) : List Value := (sgs life 0 A).map svV
open Classical in
noncomputable def okG (vs : List Value) : Bool := @decide (∃ life A, Good life A ∧ vs = gV life A) (Classical.propDecidable _)
theorem okG_iff {vs : List Value} : okG vs = true ↔ ∃ life A, Good life A ∧ vs = gV life A := by unfold okG; exact @decide_eq_true_iff _ (Classical.propDecidable _)
theorem csT_cons {p : Option Int} {f t u : Int} {l : List (Int × Int × Int)} {Q : Int → Prop} (h1 : 0 ≤ f) (h2 : f ≤ t) (h3 : t ≤ u) (h4 : u ≤ 345686400000) (h5 : ∀ g, p = some g → g ≤ f) (hQ : csT (some f) l Q) : csT p ((f, t, u) :: l) Q := by
  unfold csT
  refine pick_f (decide_eq_false (by omega)) (pick_f (decide_eq_false (by omega)) (pick_f (decide_eq_false (by omega)) (pick_f (decide_eq_false (by omega)) ?_)))
  cases p with
  | none => exact hQ
  | some g => have := h5 g rfl; exact pick_f (decide_eq_false (by omega)) hQ
theorem cs_fn {life : Int} {A : List Int} (h : Good life A) : FnOK 0 Tryz.prog 8 ⟨[fz ⟨gV life A⟩]⟩ h0 (fun v _ => v = .int .i64 0) := by
  obtain ⟨⟨⟨r, rfl⟩, h4, hg⟩, l0, l1⟩ := h
  match r, h4, hg with
  | [], h4, hg =>
    refine FnOK.ftree SC0_ok mixed Tryz.func8 someCS (cs1 (0) (0 + 100) (0 + 100 + life) _) ?_
    refine csT_cons (by omega) (by omega) (by omega) (by omega) (fun g q => by cases q) (rfl)
  | [b], h4, hg =>
    simp only [gaps] at hg
    refine FnOK.ftree SC0_ok mixed Tryz.func8 someCS (cs2 (0) (b) (0 + 100 + life) (b) (b + 100) (b + 100 + life) _) ?_
    refine csT_cons (by omega) (by omega) (by omega) (by omega) (fun g q => by cases q) (csT_cons (by omega) (by omega) (by omega) (by omega) (fun g q => by cases q; omega) (rfl))
  | [b, c], h4, hg =>
    simp only [gaps] at hg
    refine FnOK.ftree SC0_ok mixed Tryz.func8 someCS (cs3 (0) (b) (0 + 100 + life) (b) (c) (b + 100 + life) (c) (c + 100) (c + 100 + life) _) ?_
    refine csT_cons (by omega) (by omega) (by omega) (by omega) (fun g q => by cases q) (csT_cons (by omega) (by omega) (by omega) (by omega) (fun g q => by cases q; omega) (csT_cons (by omega) (by omega) (by omega) (by omega) (fun g q => by cases q; omega) (rfl)))
  | [b, c, d], h4, hg =>
    simp only [gaps] at hg
    refine FnOK.ftree SC0_ok mixed Tryz.func8 someCS (cs4 (0) (b) (0 + 100 + life) (b) (c) (b + 100 + life) (c) (d) (c + 100 + life) (d) (d + 100) (d + 100 + life) _) ?_
    refine csT_cons (by omega) (by omega) (by omega) (by omega) (fun g q => by cases q) (csT_cons (by omega) (by omega) (by omega) (by omega) (fun g q => by cases q; omega) (csT_cons (by omega) (by omega) (by omega) (by omega) (fun g q => by cases q; omega) (csT_cons (by omega) (by omega) (by omega) (by omega) (fun g q => by cases q; omega) (rfl))))
  | _ :: _ :: _ :: _ :: _, h4, _ => exact absurd h4 (by simp)
noncomputable def spCs (f : FuncId) (args : Array Value) (h : AH) : Option (Bool × Value × AH) :=
  cond (Nat.beq f 8) (match args with
    | ⟨[.func (.yield 0) ⟨vs⟩ ⟨[]⟩]⟩ => some (okG vs, .int .i64 0, h)
    | _ => none) none
theorem spCs_ok : SpOK spCs := by
  intro f args h v h' hs
  unfold spCs at hs
  obtain ⟨hf, hs2⟩ := cond_some hs
  clear hs
  have := Nat.eq_of_beq_eq_true hf
  subst this
  split at hs2
  · injection hs2 with hs
    injection hs with hb hs
    injection hs with hv hh
    subst hv hh
    rename_i vs
    obtain ⟨life, A, hA, rfl⟩ := okG_iff.1 hb
    exact ⟨FnOK.pure (cs_fn hA) rfl rfl h, Nat.le_refl _⟩
  · cases hs2

/-! Rotate -/
noncomputable def SC1 : SC := ⟨idn, spCs, false, true⟩
theorem SC1_ok : SC1.cfg.OK Tryz.prog := spCs_ok.cfg
def resO (v : Value) (h : AH) : Option (Nat × Nat × Array Value × TypeId × (Nat × Nat) × Value) :=
  match v with
  | .tuple ⟨[.slice (some ⟨b, 0, none⟩) m c, e]⟩ => match h.get b with
    | some (.cells cs t fr) => some (m, c, cs, t, fr, e)
    | _ => none
  | _ => none
def mnI (a b : Int) : Int := if b < a then b else a
noncomputable def roT (t life : Int) (p : Option Int) (Y X : Prop) : Prop :=
  bif decide (t ≥ 0) then bif !decide (t < 345686400000) then Y else bif decide (life < 0) then Y else bif decide (life > 345686400000) then Y else
    match p with
    | none => X
    | some f => bif decide (t < f) then Y else X
  else Y
set_option maxRecDepth 20000 in
theorem ro0  (t life : Int) (Q : Option (Nat × Nat × Array Value × TypeId × (Nat × Nat) × Value) → Prop) : ffn Tryz.prog SC1 [] 3000 [] Tryz.f5 [.slice none 0 0, .string ⟨#[115, 49]⟩, .string ⟨#[107, 101, 121]⟩, .int .i64 t, .int .i64 100, .int .i64 life] h0 (fun v h => Q (resO v h)) =
    roT t life none (Q none) (Q (some (1, 1, ⟨[.string ⟨#[115, 49]⟩, .string ⟨#[107, 101, 121]⟩, .int .i64 t, .int .i64 (mnI (IntKind.i64.wrap (t + 100)) 345686400000), .int .i64 (mnI (IntKind.i64.wrap (mnI (IntKind.i64.wrap (t + 100)) 345686400000 + life)) 345686400000)]⟩, 38, (0, 0), .int .i64 0))) := by kernel_rfl
set_option maxRecDepth 20000 in
theorem ro1 (f0 t0 u0 : Int) (t life : Int) (Q : Option (Nat × Nat × Array Value × TypeId × (Nat × Nat) × Value) → Prop) : ffn Tryz.prog SC1 [] 3000 [] Tryz.f5 [fz ⟨[.agg ⟨[.string ⟨#[115, 49]⟩, .string ⟨#[107, 101, 121]⟩, .int .i64 f0, .int .i64 t0, .int .i64 u0]⟩]⟩, .string ⟨#[115, 50]⟩, .string ⟨#[107, 101, 121]⟩, .int .i64 t, .int .i64 100, .int .i64 life] h0 (fun v h => Q (resO v h)) =
    bif okG [.agg ⟨[.string ⟨#[115, 49]⟩, .string ⟨#[107, 101, 121]⟩, .int .i64 f0, .int .i64 t0, .int .i64 u0]⟩] then roT t life (some f0) (Q none) (Q (some (2, 2, ⟨[.string ⟨#[115, 49]⟩, .string ⟨#[107, 101, 121]⟩, .int .i64 f0, .int .i64 (mnI t0 t), .int .i64 u0] ++ [.string ⟨#[115, 50]⟩, .string ⟨#[107, 101, 121]⟩, .int .i64 t, .int .i64 (mnI (IntKind.i64.wrap (t + 100)) 345686400000), .int .i64 (mnI (IntKind.i64.wrap (mnI (IntKind.i64.wrap (t + 100)) 345686400000 + life)) 345686400000)]⟩, 38, (0, 0), .int .i64 0))) else False := by kernel_rfl
set_option maxRecDepth 20000 in
theorem ro2 (f0 t0 u0 f1 t1 u1 : Int) (t life : Int) (Q : Option (Nat × Nat × Array Value × TypeId × (Nat × Nat) × Value) → Prop) : ffn Tryz.prog SC1 [] 3000 [] Tryz.f5 [fz ⟨[.agg ⟨[.string ⟨#[115, 49]⟩, .string ⟨#[107, 101, 121]⟩, .int .i64 f0, .int .i64 t0, .int .i64 u0]⟩, .agg ⟨[.string ⟨#[115, 50]⟩, .string ⟨#[107, 101, 121]⟩, .int .i64 f1, .int .i64 t1, .int .i64 u1]⟩]⟩, .string ⟨#[115, 51]⟩, .string ⟨#[107, 101, 121]⟩, .int .i64 t, .int .i64 100, .int .i64 life] h0 (fun v h => Q (resO v h)) =
    bif okG [.agg ⟨[.string ⟨#[115, 49]⟩, .string ⟨#[107, 101, 121]⟩, .int .i64 f0, .int .i64 t0, .int .i64 u0]⟩, .agg ⟨[.string ⟨#[115, 50]⟩, .string ⟨#[107, 101, 121]⟩, .int .i64 f1, .int .i64 t1, .int .i64 u1]⟩] then roT t life (some f1) (Q none) (Q (some (3, 3, ⟨[.string ⟨#[115, 49]⟩, .string ⟨#[107, 101, 121]⟩, .int .i64 f0, .int .i64 (mnI t0 t), .int .i64 u0] ++ [.string ⟨#[115, 50]⟩, .string ⟨#[107, 101, 121]⟩, .int .i64 f1, .int .i64 (mnI t1 t), .int .i64 u1] ++ [.string ⟨#[115, 51]⟩, .string ⟨#[107, 101, 121]⟩, .int .i64 t, .int .i64 (mnI (IntKind.i64.wrap (t + 100)) 345686400000), .int .i64 (mnI (IntKind.i64.wrap (mnI (IntKind.i64.wrap (t + 100)) 345686400000 + life)) 345686400000)]⟩, 38, (0, 0), .int .i64 0))) else False := by kernel_rfl
set_option maxRecDepth 20000 in
theorem ro3 (f0 t0 u0 f1 t1 u1 f2 t2 u2 : Int) (t life : Int) (Q : Option (Nat × Nat × Array Value × TypeId × (Nat × Nat) × Value) → Prop) : ffn Tryz.prog SC1 [] 3000 [] Tryz.f5 [fz ⟨[.agg ⟨[.string ⟨#[115, 49]⟩, .string ⟨#[107, 101, 121]⟩, .int .i64 f0, .int .i64 t0, .int .i64 u0]⟩, .agg ⟨[.string ⟨#[115, 50]⟩, .string ⟨#[107, 101, 121]⟩, .int .i64 f1, .int .i64 t1, .int .i64 u1]⟩, .agg ⟨[.string ⟨#[115, 51]⟩, .string ⟨#[107, 101, 121]⟩, .int .i64 f2, .int .i64 t2, .int .i64 u2]⟩]⟩, .string ⟨#[115, 52]⟩, .string ⟨#[107, 101, 121]⟩, .int .i64 t, .int .i64 100, .int .i64 life] h0 (fun v h => Q (resO v h)) =
    bif okG [.agg ⟨[.string ⟨#[115, 49]⟩, .string ⟨#[107, 101, 121]⟩, .int .i64 f0, .int .i64 t0, .int .i64 u0]⟩, .agg ⟨[.string ⟨#[115, 50]⟩, .string ⟨#[107, 101, 121]⟩, .int .i64 f1, .int .i64 t1, .int .i64 u1]⟩, .agg ⟨[.string ⟨#[115, 51]⟩, .string ⟨#[107, 101, 121]⟩, .int .i64 f2, .int .i64 t2, .int .i64 u2]⟩] then roT t life (some f2) (Q none) (Q (some (4, 4, ⟨[.string ⟨#[115, 49]⟩, .string ⟨#[107, 101, 121]⟩, .int .i64 f0, .int .i64 (mnI t0 t), .int .i64 u0] ++ [.string ⟨#[115, 50]⟩, .string ⟨#[107, 101, 121]⟩, .int .i64 f1, .int .i64 (mnI t1 t), .int .i64 u1] ++ [.string ⟨#[115, 51]⟩, .string ⟨#[107, 101, 121]⟩, .int .i64 f2, .int .i64 (mnI t2 t), .int .i64 u2] ++ [.string ⟨#[115, 52]⟩, .string ⟨#[107, 101, 121]⟩, .int .i64 t, .int .i64 (mnI (IntKind.i64.wrap (t + 100)) 345686400000), .int .i64 (mnI (IntKind.i64.wrap (mnI (IntKind.i64.wrap (t + 100)) 345686400000 + life)) 345686400000)]⟩, 38, (0, 0), .int .i64 0))) else False := by kernel_rfl
end Go.Proofs.YtfgjopjjajglhaaGreatDoor
