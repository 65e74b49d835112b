/-
  Values: their order: the code's rounds.
-/
import Derived.Test.YtljfobpjblnagaaGreatDoorVaH
namespace Go.Proofs.YtljfobpjblnagaaGreatDoor
open Go.Ev Go.RowKit

/-! comparing numbers, flags -/
theorem someCI : Tryz.f23.body.isSome = true := by kernel_rfl
theorem ci_eq (a b : Int) (Q : Value → Prop) : ffn Tryz.prog SP0 [] 600 [] Tryz.f23 [.int .i64 a, .int .i64 b] h0 (fun v _ => Q v) =
    bif a != a then (bif b != b then Q (.int .i64 0) else Q (.int .i64 (-1))) else bif b != b then Q (.int .i64 1) else bif decide (a < b) then Q (.int .i64 (-1)) else bif decide (a > b) then Q (.int .i64 1) else Q (.int .i64 0) := by kernel_rfl
def spCi (f : FuncId) (args : Array Value) (h : AH) : Option (Bool × Value × AH) :=
  cond (Nat.beq f 23) (match args with
    | ⟨[.int .i64 a, .int .i64 b]⟩ => some (true, .int .i64 (ValLaw.cmpI a b), h)
    | _ => none) none
theorem spCi_ok : SpOK spCi := by
  intro f args h v h' hs
  unfold spCi at hs
  obtain ⟨hf, hs2⟩ := cond_some hs
  clear hs
  have := Nat.eq_of_beq_eq_true hf
  subst this
  split at hs2
  · injection hs2 with hs
    injection hs with hb hs
    injection hs with hv hh
    subst hv hh
    rename_i a b
    have hF : FnOK 0 Tryz.prog 23 ⟨[.int .i64 a, .int .i64 b]⟩ h0 (fun v _ => v = .int .i64 (ValLaw.cmpI a b)) := by
      refine FnOK.ftree SP0_ok mixed Tryz.func23 someCI (ci_eq a b (fun v => v = .int .i64 (ValLaw.cmpI a b))) ?_
      refine pick_f (by simp) (pick_f (by simp) ?_)
      unfold ValLaw.cmpI
      by_cases h1 : a < b
      · exact pick_t (decide_eq_true h1) (by rw [if_pos h1])
      · refine pick_f (decide_eq_false h1) ?_
        rw [if_neg h1]
        by_cases h2 : b < a
        · exact pick_t (decide_eq_true h2) (by rw [if_pos h2])
        · exact pick_f (decide_eq_false h2) (by rw [if_neg h2])
    exact ⟨FnOK.pure hF rfl rfl h, Nat.le_refl _⟩
  · cases hs2
theorem someFN : Tryz.f24.body.isSome = true := by kernel_rfl
theorem fn_eq (b : Bool) (Q : Value → Prop) : ffn Tryz.prog SP0 [] 600 [] Tryz.f24 [.bool b] h0 (fun v _ => Q v) = bif b then Q (.int .i64 1) else Q (.int .i64 0) := by kernel_rfl
def spFl (f : FuncId) (args : Array Value) (h : AH) : Option (Bool × Value × AH) :=
  cond (Nat.beq f 24) (match args with
    | ⟨[.bool a]⟩ => some (true, .int .i64 (ValLaw.flagN a), h)
    | _ => none) none
theorem spFl_ok : SpOK spFl := by
  intro f args h v h' hs
  unfold spFl at hs
  obtain ⟨hf, hs2⟩ := cond_some hs
  clear hs
  have := Nat.eq_of_beq_eq_true hf
  subst this
  split at hs2
  · injection hs2 with hs
    injection hs with hb hs
    injection hs with hv hh
    subst hv hh
    rename_i a
    have hF : FnOK 0 Tryz.prog 24 ⟨[.bool a]⟩ h0 (fun v _ => v = .int .i64 (ValLaw.flagN a)) := by
      refine FnOK.ftree SP0_ok mixed Tryz.func24 someFN (fn_eq a (fun v => v = .int .i64 (ValLaw.flagN a))) ?_
      cases a <;> rfl
    exact ⟨FnOK.pure hF rfl rfl h, Nat.le_refl _⟩
  · cases hs2
noncomputable def spC2 (g : Nat) (x y : Value) (c : Int) (f : FuncId) (args : Array Value) (h : AH) : Option (Bool × Value × AH) :=
  cond (Nat.beq f 26) (match args with
    | ⟨[a, b, .func (.func u) ⟨[]⟩ ⟨[]⟩]⟩ => some (eqV a x && eqV b y && Nat.beq u g, .int .i64 c, h)
    | _ => none) none
noncomputable def spC3 (g : Nat) (x y : Value) (c : Int) (f : FuncId) (args : Array Value) (h : AH) : Option (Bool × Value × AH) :=
  cond (Nat.beq f 27) (match args with
    | ⟨[a, b, .func (.func u) ⟨[]⟩ ⟨[]⟩]⟩ => some (eqV a x && eqV b y && Nat.beq u g, .int .i64 c, h)
    | _ => none) none
noncomputable def spCp (ok : Bool) (x y : Value) (c : Int) (f : FuncId) (args : Array Value) (h : AH) : Option (Bool × Value × AH) :=
  cond (Nat.beq f 15) (match args with
    | ⟨[a, b]⟩ => some (ok && eqV a x && eqV b y, .int .i64 c, h)
    | _ => none) none
noncomputable def spC1 (ok : Bool) (x y : Value) (c : Int) (f : FuncId) (args : Array Value) (h : AH) : Option (Bool × Value × AH) :=
  cond (Nat.beq f 28) (match args with
    | ⟨[a, b]⟩ => some (ok && eqV a x && eqV b y, .int .i64 c, h)
    | _ => none) none
noncomputable def SCp (x y u v : Value) (c d : Int) : SC := ⟨idn, spOr spCi (spOr spFl (spOr (spC2 15 x y c) (spC3 28 u v d))), true, true⟩
noncomputable def SCf (ok : Bool) (x y : Value) (c : Int) : SC := ⟨idn, spCp ok x y c, true, true⟩
noncomputable def SCg (ok : Bool) (x y : Value) (c : Int) : SC := ⟨idn, spC1 ok x y c, true, true⟩
noncomputable def cpT (k k2 : Int) (f f2 : Bool) (n n2 : Int) (s s2 : ByteArray) (Q : Value → Prop) (G : Prop) : Prop := (bif ValLaw.cmpI k k2 != 0 then (bif ValLaw.cmpI k k2 != 0 then Q (.int .i64 (ValLaw.cmpI k k2)) else G) else (bif IntKind.i64.wrap (ValLaw.flagN f - ValLaw.flagN f2) != 0 then (bif IntKind.i64.wrap (ValLaw.flagN f - ValLaw.flagN f2) != 0 then Q (.int .i64 (IntKind.i64.wrap (ValLaw.flagN f - ValLaw.flagN f2))) else G) else (bif ValLaw.cmpI n n2 != 0 then (bif ValLaw.cmpI n n2 != 0 then Q (.int .i64 (ValLaw.cmpI n n2)) else G) else (bif Go.Extern.BytealgCompare.cmp s s2 != 0 then (bif Go.Extern.BytealgCompare.cmp s s2 != 0 then Q (.int .i64 (Go.Extern.BytealgCompare.cmp s s2)) else G) else G))))
theorem cp_eq (k k2 : Int) (f f2 : Bool) (n n2 : Int) (s s2 : ByteArray) (lx lx2 ly ly2 : List Value) (c d : Int) (Q : Value → Prop) :
    ffn Tryz.prog (SCp (fz ⟨lx⟩) (fz ⟨lx2⟩) (fz ⟨ly⟩) (fz ⟨ly2⟩) c d) [] 900 [] Tryz.f15 [vV k f n s lx ly, vV k2 f2 n2 s2 lx2 ly2] h0 (fun v _ => Q v) =
      cpT k k2 f f2 n n2 s s2 Q (bif eqV (fz ⟨lx⟩) (fz ⟨lx⟩) && eqV (fz ⟨lx2⟩) (fz ⟨lx2⟩) && true then (bif c != 0 then Q (.int .i64 c) else bif eqV (fz ⟨ly⟩) (fz ⟨ly⟩) && eqV (fz ⟨ly2⟩) (fz ⟨ly2⟩) && true then Q (.int .i64 d) else False) else False) := by kernel_rfl
theorem c1_eq (k k2 : Int) (f f2 : Bool) (n n2 : Int) (s s2 : ByteArray) (t t2 : List UInt8) (lx lx2 ly ly2 : List Value) (c : Int) (Q : Value → Prop) :
    ffn Tryz.prog (SCf true (vV k f n s lx ly) (vV k2 f2 n2 s2 lx2 ly2) c) [] 900 [] Tryz.f28 [mbr t (vV k f n s lx ly), mbr t2 (vV k2 f2 n2 s2 lx2 ly2)] h0 (fun v _ => Q v) =
      bif true && eqV (vV k f n s lx ly) (vV k f n s lx ly) && eqV (vV k2 f2 n2 s2 lx2 ly2) (vV k2 f2 n2 s2 lx2 ly2) then (bif Go.Extern.BytealgCompare.cmp (bl t) (bl t2) != 0 then Q (.int .i64 (Go.Extern.BytealgCompare.cmp (bl t) (bl t2))) else bif c != 0 then Q (.int .i64 c) else Q (.int .i64 0)) else False := by kernel_rfl
theorem cf_rd (ok : Bool) (x y : Value) (c n i : Int) (xs ys : List Value) (B : List Value → AH → Prop) (Q : AExit → List Value → AH → Prop) :
    once 0 Tryz.prog (SCf ok x y c) [] noHooks 600 39 [0, 1, 2, 11, 12, 13] [] [0, 1, 6] [] (oneLoop (codeOf Tryz.f26) 2) [fz ⟨xs⟩, fz ⟨ys⟩, .func (.func 15) ⟨[]⟩ ⟨[]⟩, fz ⟨xs⟩, .int .i64 n, .int .i64 i] h0 B Q =
      bif decide (i < n) then bif decide (0 ≤ i) && decide (i < ((Array.mk xs).size : Int)) && Nat.beq (e6 (elV xs i)).cells.size 6 then elV xs i = e6 (elV xs i) ∧
        (bif decide (i ≥ ((Array.mk ys).size : Int)) then Q .ret [fz ⟨xs⟩, fz ⟨ys⟩, .int .i64 1] h0 else
        bif decide (0 ≤ i) && decide (i < ((Array.mk ys).size : Int)) && Nat.beq (e6 (elV ys i)).cells.size 6 then elV ys i = e6 (elV ys i) ∧
          (bif ok && eqV (e6 (elV xs i)) x && eqV (e6 (elV ys i)) y then (bif c != 0 then Q .ret [fz ⟨xs⟩, fz ⟨ys⟩, .int .i64 c] h0 else B [fz ⟨xs⟩, fz ⟨ys⟩, .func (.func 15) ⟨[]⟩ ⟨[]⟩, fz ⟨xs⟩, .int .i64 n, .int .i64 (IntKind.i64.wrap (i + 1))] h0) else False) else False) else False
      else Q (.exit 0) [fz ⟨xs⟩, fz ⟨ys⟩, anyV] h0 := by kernel_rfl
theorem cg_rd (ok : Bool) (x y : Value) (c n i : Int) (xs ys : List Value) (B : List Value → AH → Prop) (Q : AExit → List Value → AH → Prop) :
    once 0 Tryz.prog (SCg ok x y c) [] noHooks 600 39 [0, 1, 2, 11, 12, 13] [] [0, 1, 6] [] (oneLoop (codeOf Tryz.f27) 2) [fz ⟨xs⟩, fz ⟨ys⟩, .func (.func 28) ⟨[]⟩ ⟨[]⟩, fz ⟨xs⟩, .int .i64 n, .int .i64 i] h0 B Q =
      bif decide (i < n) then bif decide (0 ≤ i) && decide (i < ((Array.mk xs).size : Int)) && Nat.beq (e7 (elV xs i)).cells.size 7 then elV xs i = e7 (elV xs i) ∧
        (bif decide (i ≥ ((Array.mk ys).size : Int)) then Q .ret [fz ⟨xs⟩, fz ⟨ys⟩, .int .i64 1] h0 else
        bif decide (0 ≤ i) && decide (i < ((Array.mk ys).size : Int)) && Nat.beq (e7 (elV ys i)).cells.size 7 then elV ys i = e7 (elV ys i) ∧
          (bif ok && eqV (e7 (elV xs i)) x && eqV (e7 (elV ys i)) y then (bif c != 0 then Q .ret [fz ⟨xs⟩, fz ⟨ys⟩, .int .i64 c] h0 else B [fz ⟨xs⟩, fz ⟨ys⟩, .func (.func 28) ⟨[]⟩ ⟨[]⟩, fz ⟨xs⟩, .int .i64 n, .int .i64 (IntKind.i64.wrap (i + 1))] h0) else False) else False) else False
      else Q (.exit 0) [fz ⟨xs⟩, fz ⟨ys⟩, anyV] h0 := by kernel_rfl
theorem cf_r (xs ys : List Value) (r : Int) (C : List Value → AH → Prop) (Q : Value → Prop) : tfn Tryz.prog SP0 [] (hook1 2 (hookLS 0 39 [0, 1, 2, 11, 12, 13] [] [0, 1, 6] (fun vals h K => C vals h ∧ K .ret [fz ⟨xs⟩, fz ⟨ys⟩, .int .i64 r] h0))) 600 [] Tryz.f26 [fz ⟨xs⟩, fz ⟨ys⟩, .func (.func 15) ⟨[]⟩ ⟨[]⟩] h0 (fun v _ => Q v) =
      (C [fz ⟨xs⟩, fz ⟨ys⟩, .func (.func 15) ⟨[]⟩ ⟨[]⟩, fz ⟨xs⟩, .int .i64 ((Array.mk xs).size : Int), .int .i64 0] h0 ∧ Q (.int .i64 r)) := by kernel_rfl
theorem cf_x (xs ys : List Value) (C : List Value → AH → Prop) (Q : Value → Prop) : tfn Tryz.prog SP0 [] (hook1 2 (hookLS 0 39 [0, 1, 2, 11, 12, 13] [] [0, 1, 6] (fun vals h K => C vals h ∧ K (.exit 0) [fz ⟨xs⟩, fz ⟨ys⟩, anyV] h0))) 600 [] Tryz.f26 [fz ⟨xs⟩, fz ⟨ys⟩, .func (.func 15) ⟨[]⟩ ⟨[]⟩] h0 (fun v _ => Q v) =
      (C [fz ⟨xs⟩, fz ⟨ys⟩, .func (.func 15) ⟨[]⟩ ⟨[]⟩, fz ⟨xs⟩, .int .i64 ((Array.mk xs).size : Int), .int .i64 0] h0 ∧ bif decide (((Array.mk xs).size : Int) < ((Array.mk ys).size : Int)) then Q (.int .i64 (-1)) else Q (.int .i64 0)) := by kernel_rfl
theorem cg_r (xs ys : List Value) (r : Int) (C : List Value → AH → Prop) (Q : Value → Prop) : tfn Tryz.prog SP0 [] (hook1 2 (hookLS 0 39 [0, 1, 2, 11, 12, 13] [] [0, 1, 6] (fun vals h K => C vals h ∧ K .ret [fz ⟨xs⟩, fz ⟨ys⟩, .int .i64 r] h0))) 600 [] Tryz.f27 [fz ⟨xs⟩, fz ⟨ys⟩, .func (.func 28) ⟨[]⟩ ⟨[]⟩] h0 (fun v _ => Q v) =
      (C [fz ⟨xs⟩, fz ⟨ys⟩, .func (.func 28) ⟨[]⟩ ⟨[]⟩, fz ⟨xs⟩, .int .i64 ((Array.mk xs).size : Int), .int .i64 0] h0 ∧ Q (.int .i64 r)) := by kernel_rfl
theorem cg_x (xs ys : List Value) (C : List Value → AH → Prop) (Q : Value → Prop) : tfn Tryz.prog SP0 [] (hook1 2 (hookLS 0 39 [0, 1, 2, 11, 12, 13] [] [0, 1, 6] (fun vals h K => C vals h ∧ K (.exit 0) [fz ⟨xs⟩, fz ⟨ys⟩, anyV] h0))) 600 [] Tryz.f27 [fz ⟨xs⟩, fz ⟨ys⟩, .func (.func 28) ⟨[]⟩ ⟨[]⟩] h0 (fun v _ => Q v) =
      (C [fz ⟨xs⟩, fz ⟨ys⟩, .func (.func 28) ⟨[]⟩ ⟨[]⟩, fz ⟨xs⟩, .int .i64 ((Array.mk xs).size : Int), .int .i64 0] h0 ∧ bif decide (((Array.mk xs).size : Int) < ((Array.mk ys).size : Int)) then Q (.int .i64 (-1)) else Q (.int .i64 0)) := by kernel_rfl
end Go.Proofs.YtljfobpjblnagaaGreatDoor
