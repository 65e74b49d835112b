/-
  Tokens stay: what the law asks of its calls.
-/
import Derived.Test.YtklednomnpghcaaGreatDoorTsI
namespace Go.Proofs.YtklednomnpghcaaGreatDoor
open Go.Ev Go.RowKit ScopeLaw

/-- What comes of a call that makes a list. -/
inductive Sh where
  | nl (e : Int)
  | rw (n c : Nat) (cs : List Value)
noncomputable def spM (f : FuncId) (xs : List Value) (t : TypeId) : Sh → FuncId → Array Value → AH → Option (Bool × Value × AH)
  | .nl e => spT f xs (.tuple ⟨[.slice none 0 0, .int .i64 e]⟩)
  | .rw n c cs => spR f xs (slE n c) cs t
/-- The same, without an error. -/
noncomputable def spB (f : FuncId) (xs : List Value) (t : TypeId) : Sh → FuncId → Array Value → AH → Option (Bool × Value × AH)
  | .nl _ => spT f xs (.slice none 0 0)
  | .rw n c cs => spR f xs (slB n c) cs t
/-- What CheckClaims says of claims, as they read where all is frozen. -/
def TcOK (fs : List Value) : Prop := FnOK 0 Tryz.prog 38 ⟨[.agg ⟨fs⟩]⟩ h0 (fun v _ => v = .int .i64 0)
open Classical in
noncomputable def okTc (fs : List Value) : Bool := @decide (TcOK fs) (Classical.propDecidable _)
open Classical in
theorem okTc_iff {fs : List Value} : okTc fs = true ↔ TcOK fs := by unfold okTc; exact @decide_eq_true_iff _ (Classical.propDecidable _)
noncomputable def spTc (f : FuncId) (args : Array Value) (h : AH) : Option (Bool × Value × AH) :=
  cond (Nat.beq f 38) (match args with
    | ⟨[.agg ⟨cs⟩]⟩ => some (cs.all (thOK h) && okTc (cs.map (thV h)), .int .i64 0, h)
    | _ => none) none
theorem spTc_ok : SpOK spTc := by
  intro f args h v h' hs
  unfold spTc at hs
  obtain ⟨hf, hs2⟩ := cond_some hs
  clear hs
  have := Nat.eq_of_beq_eq_true hf
  subst this
  split at hs2
  · injection hs2 with hs
    injection hs with hb hs
    injection hs with hv hh
    subst hv hh
    rename_i cs
    rw [Bool.and_eq_true] at hb
    refine ⟨FnOK.thaw (okTc_iff.1 hb.2) rfl ?_, Nat.le_refl _⟩
    intro N w args' hargs hr
    refine ⟨hargs.1, fun i x x' a b => ?_⟩
    match i with
    | 0 =>
      have a : Value.agg ⟨cs.map (thV h)⟩ = x := by simpa using a
      subst a
      exact th_agg hr hb.1 (hargs.2 0 _ x' rfl b)
    | i + 1 => simp at a
  · cases hs2
structure Tld where
  X : Value
  S : Value
  R : Value
  i : ByteArray
  s : ByteArray
  g : ByteArray
  p : ByteArray
  f : Int
  t : Int
  d1 : Int
  d2 : Int
  d3 : Int
  d4 : Int
  n3 : Nat
  c3 : Nat
  r3 : List Value
noncomputable def cC (D : Tld) (A S : Value) : Value := clm D.i D.s D.g D.p A S D.f D.t
noncomputable def SLw (D : Tld) (A S : Value) (m1 m2 m4 m5 m6 m7 : Sh) : SC := ⟨idn,
  spOr (spG 5 D.X D.d1) (spOr (spG 6 D.S D.d2) (spOr (spG 7 (cC D A S) D.d3) (spOr (spG 8 D.R D.d4) (spOr (spM 9 [D.X] 9 m1) (spOr (spM 11 [D.X, D.X] 9 m2)
  (spOr (spR 12 (D.S :: roA) (slE D.n3 D.c3) D.r3 44) (spOr spTc (spOr (spT 32 [S] (.int .i64 0)) (spOr spKy (spOr (spT 40 [S, S] (.bool true)) (spOr (spB 41 [A] 9 m4) (spOr (spB 33 [S] 9 m5)
  (spOr (spM 15 [D.R, cC D A S, .int .i64 5] 53 m6) (spOr (spM 17 [D.R, .int .i64 0] 53 m7) (spOr spZS (spOr spZG (spOr spZV (spOr spEs (spOr (spT 19 [D.S, D.S] (.bool true)) (spOr (spT 20 [cC D A S, cC D A S] (.bool true)) (spOr (spT 21 [D.R, D.R] (.bool true)) spReady))))))))))))))))))))), true, true⟩
noncomputable def lwG (xs : Array Value) (D : Tld) (A S : Value) (Z : Prop) : Prop :=
  bif okG 5 xs 25 0 D.X D.d1 then bif okG 6 xs 25 D.d1 D.S D.d2 then bif okG 7 xs 25 D.d2 (cC D A S) D.d3 then bif okG 8 xs 25 D.d3 D.R D.d4 then
  bif okG 5 xs 25 0 D.X D.d1 then bif okG 6 xs 25 D.d1 D.S D.d2 then bif okG 7 xs 25 D.d2 (cC D A S) D.d3 then bif okG 8 xs 25 D.d3 D.R D.d4 then Z
  else False else False else False else False else False else False else False else False
/-- What spoil asks of a row. -/
noncomputable def lwZ (m w : Nat) : Sh → Prop → Prop
  | .nl _, Z => Z
  | .rw n _ cs, Z => bif okZ m w n cs then Z else False
noncomputable def thS : Sh → Bool
  | .nl _ => true
  | .rw n c cs => cs.all strV? && Nat.ble n cs.length && Nat.ble n c
noncomputable def fzS : Sh → Value
  | .nl _ => .slice none 0 0
  | .rw n _ cs => fz ⟨cs.take n⟩
noncomputable def lwE (D : Tld) (A S : Value) (m6 m7 : Sh) (Q : Value → Prop) : Prop :=
  tqT [D.R, cC D A S, .int .i64 5] (lwZ 5 3 m6 (tqT [D.R, .int .i64 0] (lwZ 5 3 m7 (bif okE D.X D.X then tqT [D.S, D.S] (tqT [cC D A S, cC D A S] (tqT [D.R, D.R] (Q (.bool true)))) else False))))
noncomputable def lwT (xs : Array Value) (D : Tld) (A S : Value) (m1 m2 m4 m5 m6 m7 : Sh) (Q : Value → Prop) : Prop :=
  lwG xs D A S (tqT [D.X] (lwZ 9 1 m1 (tqT [D.X, D.X] (lwZ 9 1 m2 (tqT (D.S :: roA) (bif okZ 4 5 D.n3 D.r3 then
  bif okTc [.string D.i, .string D.s, .string D.g, .string D.p, A, S, .int .i64 D.f, .int .i64 D.t] then tqT [S] (bif (⟨#[116, 57]⟩ : ByteArray).toList == D.i.toList then lwE D A S m6 m7 Q else
  tqT [S, S] (bif decide (D.f < D.f) then lwE D A S m6 m7 Q else bif decide (D.t > D.t) then lwE D A S m6 m7 Q else tqT [A] (tqT [S] (bif (thS m4 && (thS m5 && (true && (true && true)))) && okTc [.string ⟨#[116, 57]⟩, .string ⟨#[98, 111, 116]⟩, .string D.g, .string D.i, fzS m4, fzS m5, .int .i64 D.f, .int .i64 D.t] then
  lwZ 9 1 m5 (lwZ 9 1 m4 (lwE D A S m6 m7 Q)) else False)))) else False else False))))))
end Go.Proofs.YtklednomnpghcaaGreatDoor
