/-
  Tokens: the law's run.
-/
import Derived.Test.YtklednomnpghcaaGreatDoorRvI
namespace Go.Proofs.YtklednomnpghcaaGreatDoor
open Go.Ev Go.RowKit RecLaw PathLaw QueryLaw B64Law

/-! claims that are told -/
def RtOK (xs : Array Value) (t : TypeId) (v : Value) (e : Int) : Prop := t = 25 ∧ p3 v = true ∧ FnOK 1 Tryz.prog 7 ⟨[.pointer (some ⟨0, 0, none⟩)]⟩ (Ev.h1 (.cells ⟨[fz xs, .int .i64 0]⟩ 25 (0, 0))) (fun u g => u = v ∧ g.get 0 = some (.cells ⟨[fz xs, .int .i64 e]⟩ 25 (0, 0)))
open Classical in
noncomputable def okRt (xs : Array Value) (t : TypeId) (v : Value) (e : Int) : Bool := @decide (RtOK xs t v e) (Classical.propDecidable _)
open Classical in
theorem okRt_iff {xs : Array Value} {t : TypeId} {v : Value} {e : Int} : okRt xs t v e = true ↔ RtOK xs t v e := by unfold okRt; exact @decide_eq_true_iff _ (Classical.propDecidable _)
noncomputable def spRt (v : Value) (e : Int) (f : FuncId) (args : Array Value) (h : AH) : Option (Bool × Value × AH) :=
  cond (Nat.beq f 7) (match args with
    | ⟨[.pointer (some ⟨b, 0, none⟩)]⟩ => match h.get b with
      | some (.cells ⟨[.func (.yield 0) xs ⟨[]⟩, .int .i64 at_]⟩ t (0, 0)) => some (decide (at_ = 0) && okRt xs t v e, v, h.set b (.cells ⟨[fz xs, .int .i64 e]⟩ 25 (0, 0)))
      | _ => none
    | _ => none) none
theorem spRt_ok (v0 : Value) (e0 : Int) : SpOK (spRt v0 e0) := by
  intro f args h v h' hs
  unfold spRt at hs
  obtain ⟨hf, hs2⟩ := cond_some hs
  clear hs
  have := Nat.eq_of_beq_eq_true hf
  subst this
  split at hs2
  · split at hs2
    · rename_i xs at_ t hg
      injection hs2 with hs
      injection hs with hb hs
      injection hs with hv hh
      subst hv hh
      simp only [Bool.and_eq_true, decide_eq_true_eq] at hb
      obtain ⟨b1, b2⟩ := hb
      obtain ⟨q1, q2, q3⟩ := okRt_iff.1 b2
      subst q1 b1
      exact ⟨FnOK.ref (cs := ⟨[fz xs, .int .i64 0]⟩) (cs' := ⟨[fz xs, .int .i64 e0]⟩) (args := []) q3 rfl (by simp [p1, fz]) (by simp [p1, fz]) q2 hg, Nat.le_refl _⟩
    · cases hs2
  · cases hs2
/-! a keeper's word, told for no revoked tokens and for some -/
noncomputable def spAc (xs : List Value) (r : Value) (ys : List Value) (s : Value) (f : FuncId) (args : Array Value) (h : AH) : Option (Bool × Value × AH) :=
  cond (Nat.beq f 25) (match args with
    | ⟨[.agg ⟨[_, _, _, .slice none 0 0, _, _]⟩, _, _]⟩ => some (tq args.toList xs, r, h)
    | ⟨[_, _, _]⟩ => some (tq args.toList ys, s, h)
    | _ => none) none
theorem spAc_ok {xs ys : List Value} {r s : Value} (hF : FnOK 0 Tryz.prog 25 ⟨xs⟩ h0 (fun v _ => v = r)) (ha : xs.all p2 = true) (hr : p3 r = true) (gF : FnOK 0 Tryz.prog 25 ⟨ys⟩ h0 (fun v _ => v = s)) (ga : ys.all p2 = true) (gr : p3 s = true) : SpOK (spAc xs r ys s) := by
  intro f args h v h' hs
  unfold spAc at hs
  obtain ⟨hf, hs2⟩ := cond_some hs
  clear hs
  have := Nat.eq_of_beq_eq_true hf
  subst this
  split at hs2
  · injection hs2 with hs
    injection hs with hb hs
    injection hs with hv hh
    subst hv hh
    have e := tq_iff hb
    rw [show xs = _ from e.symm] at hF ha
    exact ⟨FnOK.pure hF ha hr h, Nat.le_refl _⟩
  · injection hs2 with hs
    injection hs with hb hs
    injection hs with hv hh
    subst hv hh
    have e := tq_iff hb
    rw [show ys = _ from e.symm] at gF ga
    exact ⟨FnOK.pure gF ga gr h, Nat.le_refl _⟩
  · cases hs2
noncomputable def SLw (aud sc : Value) (s : Value) (id sub iss par tok : ByteArray) (fr til e stop a : Int) : SC := ⟨idn, spOr spReady (spOr (spRt (.agg ⟨[.string id, .string sub, .string iss, .string par, aud, sc, .int .i64 fr, .int .i64 til]⟩) e) (spOr (spT 23 [sgs, clV id sub gtB sc fr til, .int .i64 5] (.tuple ⟨[.string tok, .int .i64 0]⟩))
  (spOr (spAc [kV (.slice none 0 0), .string tok, .int .i64 a] (.tuple ⟨[clV id sub gtB sc fr til, .int .i64 0]⟩) [kV (fz ⟨[r1V id stop til]⟩), .string tok, .int .i64 a] s) (spOr (spT 15 [.slice none 0 0, clV id sub gtB sc fr til, .int .i64 stop] (.tuple ⟨[fz ⟨[r1V id stop til]⟩, .int .i64 0]⟩)) (spOr (spT 17 [fz ⟨[r1V id stop til]⟩, .int .i64 a] (.tuple ⟨[fz ⟨[r1V id stop til]⟩, .int .i64 0]⟩)) (spNext [])))))), false, true⟩
noncomputable def GLw : Hooks := ghost1 4 (freezeH 5 2 true 5)
theorem GLw_ok : LoopsOK 0 Tryz.prog 123 GLw (codeOf Tryz.f4) := ghosts_one (by kernel_rfl) (freezeH_ok _ _ _ _ _ _ _)
noncomputable def drN (xs : Array Value) (d n : Int) (X : Prop) : Prop := bif Nat.beq 25 25 && decide (0 ≤ d) && decide (d ≤ 1000000) && decide (1 ≤ n) && decide (n ≤ 1000000000000) && true && allInts xs then X else False
noncomputable def lwB (sc : Value) (X Y : Prop) (id sub tok : ByteArray) (fr til stop a : Int) (at_ st : Int) : Prop :=
  tqU [.slice none 0 0, clV id sub gtB sc fr til, .int .i64 st] [.slice none 0 0, clV id sub gtB sc fr til, .int .i64 stop] (tqU [kV (fz ⟨[r1V id stop til]⟩), .string tok, .int .i64 at_] [kV (fz ⟨[r1V id stop til]⟩), .string tok, .int .i64 a] (tqU [fz ⟨[r1V id stop til]⟩, .int .i64 at_] [fz ⟨[r1V id stop til]⟩, .int .i64 a]
    (tqU [kV (fz ⟨[r1V id stop til]⟩), .string tok, .int .i64 at_] [kV (fz ⟨[r1V id stop til]⟩), .string tok, .int .i64 a] (bif decide (st ≤ at_) then X else Y))))
noncomputable def lwA (xs : Array Value) (sc : Value) (X Y : Prop) (id sub tok : ByteArray) (fr til stop a : Int) (d at_ : Int) : Prop :=
  tqU [kV (.slice none 0 0), .string tok, .int .i64 at_] [kV (.slice none 0 0), .string tok, .int .i64 a] (bif decide (W (til - 1) < 0) then lwB sc X Y id sub tok fr til stop a at_ 0 else drN xs d (W (W (W (til - 1) - 0) + 1)) (lwB sc X Y id sub tok fr til stop a at_ (W (0 + nextR xs d (W (W (W (til - 1) - 0) + 1))))))
noncomputable def lwT (xs : Array Value) (aud sc : Value) (X Y : Prop) (id sub iss par tok : ByteArray) (fr til e stop a : Int) : Prop :=
  bif decide ((0 : Int) = 0) && okRt xs 25 (.agg ⟨[.string id, .string sub, .string iss, .string par, aud, sc, .int .i64 fr, .int .i64 til]⟩) e then
    tqT [sgs, clV id sub gtB sc fr til, .int .i64 5] (bif decide (W (W (til - fr) - 1) < 0) then lwA xs sc X Y id sub tok fr til stop a e (W (fr + 0)) else
      drN xs e (W (W (W (W (til - fr) - 1) - 0) + 1)) (lwA xs sc X Y id sub tok fr til stop a (e + 1) (W (fr + W (0 + nextR xs e (W (W (W (W (til - fr) - 1) - 0) + 1)))))))
  else False
set_option maxRecDepth 100000 in
theorem lw_nnt (xs : Array Value) (id sub iss par tok : ByteArray) (fr til e stop a : Int) (Q : Value → Prop) : tfn Tryz.prog (SLw (.slice none 0 0) (.slice none 0 0) (zE 13) id sub iss par tok fr til e stop a) [] GLw 3000 [] Tryz.f4 [fz xs] h0 (fun v _ => Q v) =
    lwT xs (.slice none 0 0) (.slice none 0 0) (Q (.bool true)) (Q (.bool false)) id sub iss par tok fr til e stop a := by kernel_rfl
set_option maxRecDepth 100000 in
theorem lw_nnf (xs : Array Value) (id sub iss par tok : ByteArray) (fr til e stop a : Int) (Q : Value → Prop) : tfn Tryz.prog (SLw (.slice none 0 0) (.slice none 0 0) (.tuple ⟨[clV id sub gtB (.slice none 0 0) fr til, .int .i64 0]⟩) id sub iss par tok fr til e stop a) [] GLw 3000 [] Tryz.f4 [fz xs] h0 (fun v _ => Q v) =
    lwT xs (.slice none 0 0) (.slice none 0 0) (Q (.bool false)) (Q (.bool true)) id sub iss par tok fr til e stop a := by kernel_rfl
set_option maxRecDepth 100000 in
theorem lw_nft (xs : Array Value) (S : List Value) (id sub iss par tok : ByteArray) (fr til e stop a : Int) (Q : Value → Prop) : tfn Tryz.prog (SLw (.slice none 0 0) (fz ⟨S⟩) (zE 13) id sub iss par tok fr til e stop a) [] GLw 3000 [] Tryz.f4 [fz xs] h0 (fun v _ => Q v) =
    lwT xs (.slice none 0 0) (fz ⟨S⟩) (Q (.bool true)) (Q (.bool false)) id sub iss par tok fr til e stop a := by kernel_rfl
set_option maxRecDepth 100000 in
theorem lw_nff (xs : Array Value) (S : List Value) (id sub iss par tok : ByteArray) (fr til e stop a : Int) (Q : Value → Prop) : tfn Tryz.prog (SLw (.slice none 0 0) (fz ⟨S⟩) (.tuple ⟨[clV id sub gtB (fz ⟨S⟩) fr til, .int .i64 0]⟩) id sub iss par tok fr til e stop a) [] GLw 3000 [] Tryz.f4 [fz xs] h0 (fun v _ => Q v) =
    lwT xs (.slice none 0 0) (fz ⟨S⟩) (Q (.bool false)) (Q (.bool true)) id sub iss par tok fr til e stop a := by kernel_rfl
set_option maxRecDepth 100000 in
theorem lw_fnt (xs : Array Value) (A : List Value) (id sub iss par tok : ByteArray) (fr til e stop a : Int) (Q : Value → Prop) : tfn Tryz.prog (SLw (fz ⟨A⟩) (.slice none 0 0) (zE 13) id sub iss par tok fr til e stop a) [] GLw 3000 [] Tryz.f4 [fz xs] h0 (fun v _ => Q v) =
    lwT xs (fz ⟨A⟩) (.slice none 0 0) (Q (.bool true)) (Q (.bool false)) id sub iss par tok fr til e stop a := by kernel_rfl
set_option maxRecDepth 100000 in
theorem lw_fnf (xs : Array Value) (A : List Value) (id sub iss par tok : ByteArray) (fr til e stop a : Int) (Q : Value → Prop) : tfn Tryz.prog (SLw (fz ⟨A⟩) (.slice none 0 0) (.tuple ⟨[clV id sub gtB (.slice none 0 0) fr til, .int .i64 0]⟩) id sub iss par tok fr til e stop a) [] GLw 3000 [] Tryz.f4 [fz xs] h0 (fun v _ => Q v) =
    lwT xs (fz ⟨A⟩) (.slice none 0 0) (Q (.bool false)) (Q (.bool true)) id sub iss par tok fr til e stop a := by kernel_rfl
set_option maxRecDepth 100000 in
theorem lw_fft (xs : Array Value) (A : List Value) (S : List Value) (id sub iss par tok : ByteArray) (fr til e stop a : Int) (Q : Value → Prop) : tfn Tryz.prog (SLw (fz ⟨A⟩) (fz ⟨S⟩) (zE 13) id sub iss par tok fr til e stop a) [] GLw 3000 [] Tryz.f4 [fz xs] h0 (fun v _ => Q v) =
    lwT xs (fz ⟨A⟩) (fz ⟨S⟩) (Q (.bool true)) (Q (.bool false)) id sub iss par tok fr til e stop a := by kernel_rfl
set_option maxRecDepth 100000 in
theorem lw_fff (xs : Array Value) (A : List Value) (S : List Value) (id sub iss par tok : ByteArray) (fr til e stop a : Int) (Q : Value → Prop) : tfn Tryz.prog (SLw (fz ⟨A⟩) (fz ⟨S⟩) (.tuple ⟨[clV id sub gtB (fz ⟨S⟩) fr til, .int .i64 0]⟩) id sub iss par tok fr til e stop a) [] GLw 3000 [] Tryz.f4 [fz xs] h0 (fun v _ => Q v) =
    lwT xs (fz ⟨A⟩) (fz ⟨S⟩) (Q (.bool false)) (Q (.bool true)) id sub iss par tok fr til e stop a := by kernel_rfl
theorem someLW : Tryz.f4.body.isSome = true := by kernel_rfl
end Go.Proofs.YtklednomnpghcaaGreatDoor
