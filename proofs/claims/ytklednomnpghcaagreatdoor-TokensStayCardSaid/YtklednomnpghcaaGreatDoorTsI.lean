/-
  Tokens stay: claims are checked, compared; what Delegate asks.
-/
import Derived.Test.YtklednomnpghcaaGreatDoorTsH
namespace Go.Proofs.YtklednomnpghcaaGreatDoor
open Go.Ev Go.RowKit ScopeLaw

/-! slices.Equal of strings, told -/
def EqOK (x y : Value) : Prop := x = y ∧ p2 x = true ∧ FnOK 0 Tryz.prog 18 ⟨[x, x]⟩ h0 (fun v _ => v = .bool true)
open Classical in
noncomputable def okE (x y : Value) : Bool := @decide (EqOK x y) (Classical.propDecidable _)
open Classical in
theorem okE_iff {x y : Value} : okE x y = true ↔ EqOK x y := by unfold okE; exact @decide_eq_true_iff _ (Classical.propDecidable _)
noncomputable def spEs (f : FuncId) (args : Array Value) (h : AH) : Option (Bool × Value × AH) :=
  cond (Nat.beq f 18) (match args with
    | ⟨[x, y]⟩ => some (okE x y, .bool true, h)
    | _ => none) none
theorem spEs_ok : SpOK spEs := by
  intro f args h v h' hs
  unfold spEs at hs
  obtain ⟨hf, hs2⟩ := cond_some hs
  clear hs
  have := Nat.eq_of_beq_eq_true hf
  subst this
  split at hs2
  · injection hs2 with hs
    injection hs with hb hs
    injection hs with hv hh
    subst hv hh
    obtain ⟨rfl, h2, h3⟩ := okE_iff.1 hb
    exact ⟨FnOK.pure h3 (by simp only [List.all_cons, h2]; rfl) rfl h, Nat.le_refl _⟩
  · cases hs2
theorem eqN (Q : Value → Prop) : ffn Tryz.prog SPn [] 1000 [] Tryz.f18 [.slice none 0 0, .slice none 0 0] h0 (fun v _ => Q v) = Q (.bool true) := by kernel_rfl
theorem someEQS : Tryz.f18.body.isSome = true := by kernel_rfl
theorem eqs_nil : EqOK (.slice none 0 0) (.slice none 0 0) := ⟨rfl, rfl, FnOK.ftree SPn_ok mixed Tryz.func18 someEQS (eqN (fun v => v = .bool true)) rfl⟩
theorem eqs_fz {us : List Value} (hs : us.all isStr = true) (hl : us.length ≤ 4000) : EqOK (fz ⟨us⟩) (fz ⟨us⟩) := by
  refine ⟨rfl, rfl, ?_⟩
  have := equal_fn us us hs hs hl
  rwa [eqS_self] at this
theorem eqs_aud {A : Value} (h : okAud A = true) : EqOK A A := by
  unfold okAud at h
  split at h
  · exact eqs_nil
  · exact eqs_fz (aud_str h) (by have := aud_len h; omega)
  · cases h
theorem eqs_sc {S : Value} (h : okSc S = true) : EqOK S S := by
  unfold okSc at h
  split at h
  · exact eqs_nil
  · obtain ⟨h1, _, _⟩ := lstB_iff.1 h
    obtain ⟨n1, n2⟩ := fourR_nine h1
    exact eqs_fz (nineR_ok n1).2.2.2 (by omega)
  · cases h
theorem eqs_scs {S : Value} (h : okScs S = true) : EqOK S S := by
  unfold okScs at h
  split at h
  · exact eqs_nil
  · rw [Bool.and_eq_true] at h
    obtain ⟨n1, n2⟩ := fourR_nine h.1
    exact eqs_fz (nineR_ok n1).2.2.2 (by omega)
  · cases h
/-! SameClaims -/
noncomputable def SSm : SC := ⟨idn, spEs, true, true⟩
theorem SSm_ok : SSm.cfg.OK Tryz.prog := spEs_ok.cfg
noncomputable def smT (A S : Value) (f t : Int) (Q : Value → Prop) : Prop := bif okE A A then bif okE S S then bif f == f then Q (.bool (t == t)) else Q (.bool false) else False else False
theorem sm0 (A S : Value) (f t : Int) (Q : Value → Prop) : ffn Tryz.prog SSm [] 3000 [] Tryz.f20 [clm ⟨#[116, 49]⟩ ⟨#[97, 110, 110]⟩ ⟨#[103, 97, 116, 101]⟩ ⟨#[]⟩ A S f t, clm ⟨#[116, 49]⟩ ⟨#[97, 110, 110]⟩ ⟨#[103, 97, 116, 101]⟩ ⟨#[]⟩ A S f t] h0 (fun v _ => Q v) = smT A S f t Q := by kernel_rfl
theorem sm1 (A S : Value) (f t : Int) (Q : Value → Prop) : ffn Tryz.prog SSm [] 3000 [] Tryz.f20 [clm ⟨#[116, 49]⟩ ⟨#[97, 110, 110]⟩ ⟨#[103, 97, 116, 101]⟩ ⟨#[116, 48]⟩ A S f t, clm ⟨#[116, 49]⟩ ⟨#[97, 110, 110]⟩ ⟨#[103, 97, 116, 101]⟩ ⟨#[116, 48]⟩ A S f t] h0 (fun v _ => Q v) = smT A S f t Q := by kernel_rfl
theorem sm2 (A S : Value) (f t : Int) (Q : Value → Prop) : ffn Tryz.prog SSm [] 3000 [] Tryz.f20 [clm ⟨#[116, 49]⟩ ⟨#[97, 110, 110]⟩ ⟨#[103, 97, 116, 101]⟩ ⟨#[116, 50]⟩ A S f t, clm ⟨#[116, 49]⟩ ⟨#[97, 110, 110]⟩ ⟨#[103, 97, 116, 101]⟩ ⟨#[116, 50]⟩ A S f t] h0 (fun v _ => Q v) = smT A S f t Q := by kernel_rfl
theorem sm3 (A S : Value) (f t : Int) (Q : Value → Prop) : ffn Tryz.prog SSm [] 3000 [] Tryz.f20 [clm ⟨#[116, 49]⟩ ⟨#[97, 110, 110]⟩ ⟨#[111, 116, 104, 101, 114]⟩ ⟨#[]⟩ A S f t, clm ⟨#[116, 49]⟩ ⟨#[97, 110, 110]⟩ ⟨#[111, 116, 104, 101, 114]⟩ ⟨#[]⟩ A S f t] h0 (fun v _ => Q v) = smT A S f t Q := by kernel_rfl
theorem sm4 (A S : Value) (f t : Int) (Q : Value → Prop) : ffn Tryz.prog SSm [] 3000 [] Tryz.f20 [clm ⟨#[116, 49]⟩ ⟨#[97, 110, 110]⟩ ⟨#[111, 116, 104, 101, 114]⟩ ⟨#[116, 48]⟩ A S f t, clm ⟨#[116, 49]⟩ ⟨#[97, 110, 110]⟩ ⟨#[111, 116, 104, 101, 114]⟩ ⟨#[116, 48]⟩ A S f t] h0 (fun v _ => Q v) = smT A S f t Q := by kernel_rfl
theorem sm5 (A S : Value) (f t : Int) (Q : Value → Prop) : ffn Tryz.prog SSm [] 3000 [] Tryz.f20 [clm ⟨#[116, 49]⟩ ⟨#[97, 110, 110]⟩ ⟨#[111, 116, 104, 101, 114]⟩ ⟨#[116, 50]⟩ A S f t, clm ⟨#[116, 49]⟩ ⟨#[97, 110, 110]⟩ ⟨#[111, 116, 104, 101, 114]⟩ ⟨#[116, 50]⟩ A S f t] h0 (fun v _ => Q v) = smT A S f t Q := by kernel_rfl
theorem sm6 (A S : Value) (f t : Int) (Q : Value → Prop) : ffn Tryz.prog SSm [] 3000 [] Tryz.f20 [clm ⟨#[116, 49]⟩ ⟨#[98, 111, 98]⟩ ⟨#[103, 97, 116, 101]⟩ ⟨#[]⟩ A S f t, clm ⟨#[116, 49]⟩ ⟨#[98, 111, 98]⟩ ⟨#[103, 97, 116, 101]⟩ ⟨#[]⟩ A S f t] h0 (fun v _ => Q v) = smT A S f t Q := by kernel_rfl
theorem sm7 (A S : Value) (f t : Int) (Q : Value → Prop) : ffn Tryz.prog SSm [] 3000 [] Tryz.f20 [clm ⟨#[116, 49]⟩ ⟨#[98, 111, 98]⟩ ⟨#[103, 97, 116, 101]⟩ ⟨#[116, 48]⟩ A S f t, clm ⟨#[116, 49]⟩ ⟨#[98, 111, 98]⟩ ⟨#[103, 97, 116, 101]⟩ ⟨#[116, 48]⟩ A S f t] h0 (fun v _ => Q v) = smT A S f t Q := by kernel_rfl
theorem sm8 (A S : Value) (f t : Int) (Q : Value → Prop) : ffn Tryz.prog SSm [] 3000 [] Tryz.f20 [clm ⟨#[116, 49]⟩ ⟨#[98, 111, 98]⟩ ⟨#[103, 97, 116, 101]⟩ ⟨#[116, 50]⟩ A S f t, clm ⟨#[116, 49]⟩ ⟨#[98, 111, 98]⟩ ⟨#[103, 97, 116, 101]⟩ ⟨#[116, 50]⟩ A S f t] h0 (fun v _ => Q v) = smT A S f t Q := by kernel_rfl
theorem sm9 (A S : Value) (f t : Int) (Q : Value → Prop) : ffn Tryz.prog SSm [] 3000 [] Tryz.f20 [clm ⟨#[116, 49]⟩ ⟨#[98, 111, 98]⟩ ⟨#[111, 116, 104, 101, 114]⟩ ⟨#[]⟩ A S f t, clm ⟨#[116, 49]⟩ ⟨#[98, 111, 98]⟩ ⟨#[111, 116, 104, 101, 114]⟩ ⟨#[]⟩ A S f t] h0 (fun v _ => Q v) = smT A S f t Q := by kernel_rfl
theorem sm10 (A S : Value) (f t : Int) (Q : Value → Prop) : ffn Tryz.prog SSm [] 3000 [] Tryz.f20 [clm ⟨#[116, 49]⟩ ⟨#[98, 111, 98]⟩ ⟨#[111, 116, 104, 101, 114]⟩ ⟨#[116, 48]⟩ A S f t, clm ⟨#[116, 49]⟩ ⟨#[98, 111, 98]⟩ ⟨#[111, 116, 104, 101, 114]⟩ ⟨#[116, 48]⟩ A S f t] h0 (fun v _ => Q v) = smT A S f t Q := by kernel_rfl
theorem sm11 (A S : Value) (f t : Int) (Q : Value → Prop) : ffn Tryz.prog SSm [] 3000 [] Tryz.f20 [clm ⟨#[116, 49]⟩ ⟨#[98, 111, 98]⟩ ⟨#[111, 116, 104, 101, 114]⟩ ⟨#[116, 50]⟩ A S f t, clm ⟨#[116, 49]⟩ ⟨#[98, 111, 98]⟩ ⟨#[111, 116, 104, 101, 114]⟩ ⟨#[116, 50]⟩ A S f t] h0 (fun v _ => Q v) = smT A S f t Q := by kernel_rfl
theorem sm12 (A S : Value) (f t : Int) (Q : Value → Prop) : ffn Tryz.prog SSm [] 3000 [] Tryz.f20 [clm ⟨#[116, 50]⟩ ⟨#[97, 110, 110]⟩ ⟨#[103, 97, 116, 101]⟩ ⟨#[]⟩ A S f t, clm ⟨#[116, 50]⟩ ⟨#[97, 110, 110]⟩ ⟨#[103, 97, 116, 101]⟩ ⟨#[]⟩ A S f t] h0 (fun v _ => Q v) = smT A S f t Q := by kernel_rfl
theorem sm13 (A S : Value) (f t : Int) (Q : Value → Prop) : ffn Tryz.prog SSm [] 3000 [] Tryz.f20 [clm ⟨#[116, 50]⟩ ⟨#[97, 110, 110]⟩ ⟨#[103, 97, 116, 101]⟩ ⟨#[116, 48]⟩ A S f t, clm ⟨#[116, 50]⟩ ⟨#[97, 110, 110]⟩ ⟨#[103, 97, 116, 101]⟩ ⟨#[116, 48]⟩ A S f t] h0 (fun v _ => Q v) = smT A S f t Q := by kernel_rfl
theorem sm14 (A S : Value) (f t : Int) (Q : Value → Prop) : ffn Tryz.prog SSm [] 3000 [] Tryz.f20 [clm ⟨#[116, 50]⟩ ⟨#[97, 110, 110]⟩ ⟨#[103, 97, 116, 101]⟩ ⟨#[116, 50]⟩ A S f t, clm ⟨#[116, 50]⟩ ⟨#[97, 110, 110]⟩ ⟨#[103, 97, 116, 101]⟩ ⟨#[116, 50]⟩ A S f t] h0 (fun v _ => Q v) = smT A S f t Q := by kernel_rfl
theorem sm15 (A S : Value) (f t : Int) (Q : Value → Prop) : ffn Tryz.prog SSm [] 3000 [] Tryz.f20 [clm ⟨#[116, 50]⟩ ⟨#[97, 110, 110]⟩ ⟨#[111, 116, 104, 101, 114]⟩ ⟨#[]⟩ A S f t, clm ⟨#[116, 50]⟩ ⟨#[97, 110, 110]⟩ ⟨#[111, 116, 104, 101, 114]⟩ ⟨#[]⟩ A S f t] h0 (fun v _ => Q v) = smT A S f t Q := by kernel_rfl
theorem sm16 (A S : Value) (f t : Int) (Q : Value → Prop) : ffn Tryz.prog SSm [] 3000 [] Tryz.f20 [clm ⟨#[116, 50]⟩ ⟨#[97, 110, 110]⟩ ⟨#[111, 116, 104, 101, 114]⟩ ⟨#[116, 48]⟩ A S f t, clm ⟨#[116, 50]⟩ ⟨#[97, 110, 110]⟩ ⟨#[111, 116, 104, 101, 114]⟩ ⟨#[116, 48]⟩ A S f t] h0 (fun v _ => Q v) = smT A S f t Q := by kernel_rfl
theorem sm17 (A S : Value) (f t : Int) (Q : Value → Prop) : ffn Tryz.prog SSm [] 3000 [] Tryz.f20 [clm ⟨#[116, 50]⟩ ⟨#[97, 110, 110]⟩ ⟨#[111, 116, 104, 101, 114]⟩ ⟨#[116, 50]⟩ A S f t, clm ⟨#[116, 50]⟩ ⟨#[97, 110, 110]⟩ ⟨#[111, 116, 104, 101, 114]⟩ ⟨#[116, 50]⟩ A S f t] h0 (fun v _ => Q v) = smT A S f t Q := by kernel_rfl
theorem sm18 (A S : Value) (f t : Int) (Q : Value → Prop) : ffn Tryz.prog SSm [] 3000 [] Tryz.f20 [clm ⟨#[116, 50]⟩ ⟨#[98, 111, 98]⟩ ⟨#[103, 97, 116, 101]⟩ ⟨#[]⟩ A S f t, clm ⟨#[116, 50]⟩ ⟨#[98, 111, 98]⟩ ⟨#[103, 97, 116, 101]⟩ ⟨#[]⟩ A S f t] h0 (fun v _ => Q v) = smT A S f t Q := by kernel_rfl
theorem sm19 (A S : Value) (f t : Int) (Q : Value → Prop) : ffn Tryz.prog SSm [] 3000 [] Tryz.f20 [clm ⟨#[116, 50]⟩ ⟨#[98, 111, 98]⟩ ⟨#[103, 97, 116, 101]⟩ ⟨#[116, 48]⟩ A S f t, clm ⟨#[116, 50]⟩ ⟨#[98, 111, 98]⟩ ⟨#[103, 97, 116, 101]⟩ ⟨#[116, 48]⟩ A S f t] h0 (fun v _ => Q v) = smT A S f t Q := by kernel_rfl
theorem sm20 (A S : Value) (f t : Int) (Q : Value → Prop) : ffn Tryz.prog SSm [] 3000 [] Tryz.f20 [clm ⟨#[116, 50]⟩ ⟨#[98, 111, 98]⟩ ⟨#[103, 97, 116, 101]⟩ ⟨#[116, 50]⟩ A S f t, clm ⟨#[116, 50]⟩ ⟨#[98, 111, 98]⟩ ⟨#[103, 97, 116, 101]⟩ ⟨#[116, 50]⟩ A S f t] h0 (fun v _ => Q v) = smT A S f t Q := by kernel_rfl
theorem sm21 (A S : Value) (f t : Int) (Q : Value → Prop) : ffn Tryz.prog SSm [] 3000 [] Tryz.f20 [clm ⟨#[116, 50]⟩ ⟨#[98, 111, 98]⟩ ⟨#[111, 116, 104, 101, 114]⟩ ⟨#[]⟩ A S f t, clm ⟨#[116, 50]⟩ ⟨#[98, 111, 98]⟩ ⟨#[111, 116, 104, 101, 114]⟩ ⟨#[]⟩ A S f t] h0 (fun v _ => Q v) = smT A S f t Q := by kernel_rfl
theorem sm22 (A S : Value) (f t : Int) (Q : Value → Prop) : ffn Tryz.prog SSm [] 3000 [] Tryz.f20 [clm ⟨#[116, 50]⟩ ⟨#[98, 111, 98]⟩ ⟨#[111, 116, 104, 101, 114]⟩ ⟨#[116, 48]⟩ A S f t, clm ⟨#[116, 50]⟩ ⟨#[98, 111, 98]⟩ ⟨#[111, 116, 104, 101, 114]⟩ ⟨#[116, 48]⟩ A S f t] h0 (fun v _ => Q v) = smT A S f t Q := by kernel_rfl
theorem sm23 (A S : Value) (f t : Int) (Q : Value → Prop) : ffn Tryz.prog SSm [] 3000 [] Tryz.f20 [clm ⟨#[116, 50]⟩ ⟨#[98, 111, 98]⟩ ⟨#[111, 116, 104, 101, 114]⟩ ⟨#[116, 50]⟩ A S f t, clm ⟨#[116, 50]⟩ ⟨#[98, 111, 98]⟩ ⟨#[111, 116, 104, 101, 114]⟩ ⟨#[116, 50]⟩ A S f t] h0 (fun v _ => Q v) = smT A S f t Q := by kernel_rfl
theorem sm24 (A S : Value) (f t : Int) (Q : Value → Prop) : ffn Tryz.prog SSm [] 3000 [] Tryz.f20 [clm ⟨#[116, 51]⟩ ⟨#[97, 110, 110]⟩ ⟨#[103, 97, 116, 101]⟩ ⟨#[]⟩ A S f t, clm ⟨#[116, 51]⟩ ⟨#[97, 110, 110]⟩ ⟨#[103, 97, 116, 101]⟩ ⟨#[]⟩ A S f t] h0 (fun v _ => Q v) = smT A S f t Q := by kernel_rfl
theorem sm25 (A S : Value) (f t : Int) (Q : Value → Prop) : ffn Tryz.prog SSm [] 3000 [] Tryz.f20 [clm ⟨#[116, 51]⟩ ⟨#[97, 110, 110]⟩ ⟨#[103, 97, 116, 101]⟩ ⟨#[116, 48]⟩ A S f t, clm ⟨#[116, 51]⟩ ⟨#[97, 110, 110]⟩ ⟨#[103, 97, 116, 101]⟩ ⟨#[116, 48]⟩ A S f t] h0 (fun v _ => Q v) = smT A S f t Q := by kernel_rfl
theorem sm26 (A S : Value) (f t : Int) (Q : Value → Prop) : ffn Tryz.prog SSm [] 3000 [] Tryz.f20 [clm ⟨#[116, 51]⟩ ⟨#[97, 110, 110]⟩ ⟨#[103, 97, 116, 101]⟩ ⟨#[116, 50]⟩ A S f t, clm ⟨#[116, 51]⟩ ⟨#[97, 110, 110]⟩ ⟨#[103, 97, 116, 101]⟩ ⟨#[116, 50]⟩ A S f t] h0 (fun v _ => Q v) = smT A S f t Q := by kernel_rfl
theorem sm27 (A S : Value) (f t : Int) (Q : Value → Prop) : ffn Tryz.prog SSm [] 3000 [] Tryz.f20 [clm ⟨#[116, 51]⟩ ⟨#[97, 110, 110]⟩ ⟨#[111, 116, 104, 101, 114]⟩ ⟨#[]⟩ A S f t, clm ⟨#[116, 51]⟩ ⟨#[97, 110, 110]⟩ ⟨#[111, 116, 104, 101, 114]⟩ ⟨#[]⟩ A S f t] h0 (fun v _ => Q v) = smT A S f t Q := by kernel_rfl
theorem sm28 (A S : Value) (f t : Int) (Q : Value → Prop) : ffn Tryz.prog SSm [] 3000 [] Tryz.f20 [clm ⟨#[116, 51]⟩ ⟨#[97, 110, 110]⟩ ⟨#[111, 116, 104, 101, 114]⟩ ⟨#[116, 48]⟩ A S f t, clm ⟨#[116, 51]⟩ ⟨#[97, 110, 110]⟩ ⟨#[111, 116, 104, 101, 114]⟩ ⟨#[116, 48]⟩ A S f t] h0 (fun v _ => Q v) = smT A S f t Q := by kernel_rfl
theorem sm29 (A S : Value) (f t : Int) (Q : Value → Prop) : ffn Tryz.prog SSm [] 3000 [] Tryz.f20 [clm ⟨#[116, 51]⟩ ⟨#[97, 110, 110]⟩ ⟨#[111, 116, 104, 101, 114]⟩ ⟨#[116, 50]⟩ A S f t, clm ⟨#[116, 51]⟩ ⟨#[97, 110, 110]⟩ ⟨#[111, 116, 104, 101, 114]⟩ ⟨#[116, 50]⟩ A S f t] h0 (fun v _ => Q v) = smT A S f t Q := by kernel_rfl
theorem sm30 (A S : Value) (f t : Int) (Q : Value → Prop) : ffn Tryz.prog SSm [] 3000 [] Tryz.f20 [clm ⟨#[116, 51]⟩ ⟨#[98, 111, 98]⟩ ⟨#[103, 97, 116, 101]⟩ ⟨#[]⟩ A S f t, clm ⟨#[116, 51]⟩ ⟨#[98, 111, 98]⟩ ⟨#[103, 97, 116, 101]⟩ ⟨#[]⟩ A S f t] h0 (fun v _ => Q v) = smT A S f t Q := by kernel_rfl
theorem sm31 (A S : Value) (f t : Int) (Q : Value → Prop) : ffn Tryz.prog SSm [] 3000 [] Tryz.f20 [clm ⟨#[116, 51]⟩ ⟨#[98, 111, 98]⟩ ⟨#[103, 97, 116, 101]⟩ ⟨#[116, 48]⟩ A S f t, clm ⟨#[116, 51]⟩ ⟨#[98, 111, 98]⟩ ⟨#[103, 97, 116, 101]⟩ ⟨#[116, 48]⟩ A S f t] h0 (fun v _ => Q v) = smT A S f t Q := by kernel_rfl
theorem sm32 (A S : Value) (f t : Int) (Q : Value → Prop) : ffn Tryz.prog SSm [] 3000 [] Tryz.f20 [clm ⟨#[116, 51]⟩ ⟨#[98, 111, 98]⟩ ⟨#[103, 97, 116, 101]⟩ ⟨#[116, 50]⟩ A S f t, clm ⟨#[116, 51]⟩ ⟨#[98, 111, 98]⟩ ⟨#[103, 97, 116, 101]⟩ ⟨#[116, 50]⟩ A S f t] h0 (fun v _ => Q v) = smT A S f t Q := by kernel_rfl
theorem sm33 (A S : Value) (f t : Int) (Q : Value → Prop) : ffn Tryz.prog SSm [] 3000 [] Tryz.f20 [clm ⟨#[116, 51]⟩ ⟨#[98, 111, 98]⟩ ⟨#[111, 116, 104, 101, 114]⟩ ⟨#[]⟩ A S f t, clm ⟨#[116, 51]⟩ ⟨#[98, 111, 98]⟩ ⟨#[111, 116, 104, 101, 114]⟩ ⟨#[]⟩ A S f t] h0 (fun v _ => Q v) = smT A S f t Q := by kernel_rfl
theorem sm34 (A S : Value) (f t : Int) (Q : Value → Prop) : ffn Tryz.prog SSm [] 3000 [] Tryz.f20 [clm ⟨#[116, 51]⟩ ⟨#[98, 111, 98]⟩ ⟨#[111, 116, 104, 101, 114]⟩ ⟨#[116, 48]⟩ A S f t, clm ⟨#[116, 51]⟩ ⟨#[98, 111, 98]⟩ ⟨#[111, 116, 104, 101, 114]⟩ ⟨#[116, 48]⟩ A S f t] h0 (fun v _ => Q v) = smT A S f t Q := by kernel_rfl
theorem sm35 (A S : Value) (f t : Int) (Q : Value → Prop) : ffn Tryz.prog SSm [] 3000 [] Tryz.f20 [clm ⟨#[116, 51]⟩ ⟨#[98, 111, 98]⟩ ⟨#[111, 116, 104, 101, 114]⟩ ⟨#[116, 50]⟩ A S f t, clm ⟨#[116, 51]⟩ ⟨#[98, 111, 98]⟩ ⟨#[111, 116, 104, 101, 114]⟩ ⟨#[116, 50]⟩ A S f t] h0 (fun v _ => Q v) = smT A S f t Q := by kernel_rfl
theorem smT_ok {A S : Value} {f t : Int} (hA : okAud A = true) (hS : okSc S = true) : smT A S f t (fun v => v = .bool true) :=
  need_mk (okE_iff.2 (eqs_aud hA)) (need_mk (okE_iff.2 (eqs_sc hS)) (pick_t (beq_self_eq_true f) (by rw [beq_self_eq_true])))
theorem someSAM : Tryz.f20.body.isSome = true := by kernel_rfl
theorem sm_fn {i s g p : ByteArray} {A S : Value} {f t : Int} (h : ClmOK i s g p A S f t) : FnOK 0 Tryz.prog 20 ⟨[clm i s g p A S f t, clm i s g p A S f t]⟩ h0 (fun v _ => v = .bool true) := by
  obtain ⟨h1, h2, h3, h4, h5, h6, _⟩ := h
  have hT := smT_ok (f := f) (t := t) h5 h6
  rcases h1 with rfl | rfl | rfl
  · rcases h2 with rfl | rfl
    · rcases h3 with rfl | rfl
      · rcases h4 with rfl | rfl | rfl
        · exact FnOK.ftree SSm_ok mixed Tryz.func20 someSAM (sm0 A S f t (fun v => v = .bool true)) hT
        · exact FnOK.ftree SSm_ok mixed Tryz.func20 someSAM (sm1 A S f t (fun v => v = .bool true)) hT
        · exact FnOK.ftree SSm_ok mixed Tryz.func20 someSAM (sm2 A S f t (fun v => v = .bool true)) hT
      · rcases h4 with rfl | rfl | rfl
        · exact FnOK.ftree SSm_ok mixed Tryz.func20 someSAM (sm3 A S f t (fun v => v = .bool true)) hT
        · exact FnOK.ftree SSm_ok mixed Tryz.func20 someSAM (sm4 A S f t (fun v => v = .bool true)) hT
        · exact FnOK.ftree SSm_ok mixed Tryz.func20 someSAM (sm5 A S f t (fun v => v = .bool true)) hT
    · rcases h3 with rfl | rfl
      · rcases h4 with rfl | rfl | rfl
        · exact FnOK.ftree SSm_ok mixed Tryz.func20 someSAM (sm6 A S f t (fun v => v = .bool true)) hT
        · exact FnOK.ftree SSm_ok mixed Tryz.func20 someSAM (sm7 A S f t (fun v => v = .bool true)) hT
        · exact FnOK.ftree SSm_ok mixed Tryz.func20 someSAM (sm8 A S f t (fun v => v = .bool true)) hT
      · rcases h4 with rfl | rfl | rfl
        · exact FnOK.ftree SSm_ok mixed Tryz.func20 someSAM (sm9 A S f t (fun v => v = .bool true)) hT
        · exact FnOK.ftree SSm_ok mixed Tryz.func20 someSAM (sm10 A S f t (fun v => v = .bool true)) hT
        · exact FnOK.ftree SSm_ok mixed Tryz.func20 someSAM (sm11 A S f t (fun v => v = .bool true)) hT
  · rcases h2 with rfl | rfl
    · rcases h3 with rfl | rfl
      · rcases h4 with rfl | rfl | rfl
        · exact FnOK.ftree SSm_ok mixed Tryz.func20 someSAM (sm12 A S f t (fun v => v = .bool true)) hT
        · exact FnOK.ftree SSm_ok mixed Tryz.func20 someSAM (sm13 A S f t (fun v => v = .bool true)) hT
        · exact FnOK.ftree SSm_ok mixed Tryz.func20 someSAM (sm14 A S f t (fun v => v = .bool true)) hT
      · rcases h4 with rfl | rfl | rfl
        · exact FnOK.ftree SSm_ok mixed Tryz.func20 someSAM (sm15 A S f t (fun v => v = .bool true)) hT
        · exact FnOK.ftree SSm_ok mixed Tryz.func20 someSAM (sm16 A S f t (fun v => v = .bool true)) hT
        · exact FnOK.ftree SSm_ok mixed Tryz.func20 someSAM (sm17 A S f t (fun v => v = .bool true)) hT
    · rcases h3 with rfl | rfl
      · rcases h4 with rfl | rfl | rfl
        · exact FnOK.ftree SSm_ok mixed Tryz.func20 someSAM (sm18 A S f t (fun v => v = .bool true)) hT
        · exact FnOK.ftree SSm_ok mixed Tryz.func20 someSAM (sm19 A S f t (fun v => v = .bool true)) hT
        · exact FnOK.ftree SSm_ok mixed Tryz.func20 someSAM (sm20 A S f t (fun v => v = .bool true)) hT
      · rcases h4 with rfl | rfl | rfl
        · exact FnOK.ftree SSm_ok mixed Tryz.func20 someSAM (sm21 A S f t (fun v => v = .bool true)) hT
        · exact FnOK.ftree SSm_ok mixed Tryz.func20 someSAM (sm22 A S f t (fun v => v = .bool true)) hT
        · exact FnOK.ftree SSm_ok mixed Tryz.func20 someSAM (sm23 A S f t (fun v => v = .bool true)) hT
  · rcases h2 with rfl | rfl
    · rcases h3 with rfl | rfl
      · rcases h4 with rfl | rfl | rfl
        · exact FnOK.ftree SSm_ok mixed Tryz.func20 someSAM (sm24 A S f t (fun v => v = .bool true)) hT
        · exact FnOK.ftree SSm_ok mixed Tryz.func20 someSAM (sm25 A S f t (fun v => v = .bool true)) hT
        · exact FnOK.ftree SSm_ok mixed Tryz.func20 someSAM (sm26 A S f t (fun v => v = .bool true)) hT
      · rcases h4 with rfl | rfl | rfl
        · exact FnOK.ftree SSm_ok mixed Tryz.func20 someSAM (sm27 A S f t (fun v => v = .bool true)) hT
        · exact FnOK.ftree SSm_ok mixed Tryz.func20 someSAM (sm28 A S f t (fun v => v = .bool true)) hT
        · exact FnOK.ftree SSm_ok mixed Tryz.func20 someSAM (sm29 A S f t (fun v => v = .bool true)) hT
    · rcases h3 with rfl | rfl
      · rcases h4 with rfl | rfl | rfl
        · exact FnOK.ftree SSm_ok mixed Tryz.func20 someSAM (sm30 A S f t (fun v => v = .bool true)) hT
        · exact FnOK.ftree SSm_ok mixed Tryz.func20 someSAM (sm31 A S f t (fun v => v = .bool true)) hT
        · exact FnOK.ftree SSm_ok mixed Tryz.func20 someSAM (sm32 A S f t (fun v => v = .bool true)) hT
      · rcases h4 with rfl | rfl | rfl
        · exact FnOK.ftree SSm_ok mixed Tryz.func20 someSAM (sm33 A S f t (fun v => v = .bool true)) hT
        · exact FnOK.ftree SSm_ok mixed Tryz.func20 someSAM (sm34 A S f t (fun v => v = .bool true)) hT
        · exact FnOK.ftree SSm_ok mixed Tryz.func20 someSAM (sm35 A S f t (fun v => v = .bool true)) hT
/-! CheckClaims -/
theorem keys_ok {i s g p : ByteArray} {A S : Value} {f t : Int} (h : ClmOK i s g p A S f t) : inKey i = true ∧ inKey s = true ∧ inKey g = true ∧ okPar p = true := by
  obtain ⟨h1, h2, h3, h4, _⟩ := h
  refine ⟨?_, ?_, ?_, ?_⟩
  · rcases h1 with rfl | rfl | rfl <;> decide +kernel
  · rcases h2 with rfl | rfl <;> decide +kernel
  · rcases h3 with rfl | rfl <;> decide +kernel
  · rcases h4 with rfl | rfl | rfl <;> decide +kernel
theorem ccE_0 {f t : Int} (h1 : 0 ≤ f) (h2 : f < t) (h3 : t ≤ 1000) : ccE f t = 0 := by
  unfold ccE
  rw [if_neg (by omega), if_neg (by omega), if_neg (by omega)]
theorem ccl_fn {i s g p : ByteArray} {A S : Value} {f t : Int} (h : ClmOK i s g p A S f t) : FnOK 0 Tryz.prog 38 ⟨[clm i s g p A S f t]⟩ h0 (fun v _ => v = .int .i64 0) := by
  obtain ⟨k1, k2, k3, k4⟩ := keys_ok h
  obtain ⟨_, _, _, _, h5, h6, h7, h8, h9⟩ := h
  have := cc_fn (fr := f) (to := t) k1 k2 k3 k4 h5 h6
  rwa [ccE_0 h7 h8 h9] at this
/-- What Delegate makes of them. -/
theorem ccd_fn {i s g p : ByteArray} {A S S2 : Value} {f t : Int} (h : ClmOK i s g p A S f t) (h2 : okSc S2 = true) : FnOK 0 Tryz.prog 38 ⟨[clm ⟨#[116, 57]⟩ ⟨#[98, 111, 116]⟩ g i A S2 f t]⟩ h0 (fun v _ => v = .int .i64 0) := by
  obtain ⟨k1, k2, k3, k4⟩ := keys_ok h
  obtain ⟨_, _, _, _, h5, _, h7, h8, h9⟩ := h
  have := cc_fn (id := ⟨#[116, 57]⟩) (sub := ⟨#[98, 111, 116]⟩) (iss := g) (par := i) (fr := f) (to := t) (by decide +kernel) (by decide +kernel) k3 (by unfold okPar; rw [k1]; simp) h5 h2
  rwa [ccE_0 h7 h8 h9] at this
/-! what else Delegate asks -/
theorem ckN (Q : Value → Prop) : ffn Tryz.prog SPn [] 1000 [] Tryz.f32 [.slice none 0 0] h0 (fun v _ => Q v) = Q (.int .i64 0) := by kernel_rfl
theorem someCKS : Tryz.f32.body.isSome = true := by kernel_rfl
theorem caN (Q : Value → Prop) : ffn Tryz.prog SPn [] 1000 [] Tryz.f40 [.slice none 0 0, .slice none 0 0] h0 (fun v _ => Q v) = Q (.bool true) := by kernel_rfl
theorem someCA : Tryz.f40.body.isSome = true := by kernel_rfl
theorem allV_self {vs : List Value} (h : tenR vs = true) : allV vs vs = true := by
  unfold allV anyV1
  rw [List.all_eq_true]
  intro v hv
  refine List.any_eq_true.2 ⟨v, hv, ?_⟩
  obtain ⟨i, hi, rfl⟩ := List.getElem_of_mem hv
  have ht := (ten_at h hi).1
  have e : vs.getD i (Value.tuple { toList := [] }) = vs[i] := by simp [List.getD, hi]
  rw [e] at ht
  exact covS_self ht
theorem cks_fn {S : Value} (h : okSc S = true) : FnOK 0 Tryz.prog 32 ⟨[S]⟩ h0 (fun v _ => v = .int .i64 0) := by
  unfold okSc at h
  split at h
  · exact FnOK.ftree SPn_ok mixed Tryz.func32 someCKS (ckN (fun v => v = .int .i64 0)) rfl
  · obtain ⟨h1, _, _⟩ := lstB_iff.1 h
    exact ck_fn (nineR_ten (fourR_nine h1).1)
  · cases h
theorem cas_fn {S : Value} (h : okSc S = true) : FnOK 0 Tryz.prog 40 ⟨[S, S]⟩ h0 (fun v _ => v = .bool true) := by
  unfold okSc at h
  split at h
  · exact FnOK.ftree SPn_ok mixed Tryz.func40 someCA (caN (fun v => v = .bool true)) rfl
  · obtain ⟨h1, _, _⟩ := lstB_iff.1 h
    have ht := nineR_ten (fourR_nine h1).1
    have := ca_fn ht ht
    rwa [allV_self ht] at this
  · cases h
theorem clN (Q : Value → Prop) : ffn Tryz.prog SPn [] 1000 [] Tryz.f41 [.slice none 0 0] h0 (fun v _ => Q v) = Q (.slice none 0 0) := by kernel_rfl
theorem cln_fn : FnOK 0 Tryz.prog 41 ⟨[.slice none 0 0]⟩ h0 (fun v _ => v = .slice none 0 0) := FnOK.ftree SPn_ok mixed Tryz.func41 someCN (clN (fun v => v = .slice none 0 0)) rfl
theorem clr_fn {A : List Value} (h : audB A = true) : ∃ n c cs, RowOK 41 [fz ⟨A⟩] (slB n c) cs 9 ∧ n ≤ c ∧ RowS n cs A := by
  have := audB_iff.1 h
  simp only [audL, List.mem_cons, List.not_mem_nil, or_false] at this
  rcases this with rfl | rfl | rfl
  · refine ⟨1, 1, [scp [115, 104, 111, 112]], FnOK.mono (FnOK.ftree (p := 0) SPn_ok mixed Tryz.func41 someCN (cl0 (fun v o => v = .slice (some ⟨1, 0, none⟩) 1 1 ∧ o = some (.cells ⟨[scp [115, 104, 111, 112]]⟩ 9 (0, 0)))) ⟨rfl, rfl⟩) ?_, Nat.le_refl _, ⟨Nat.le_of_ble_eq_true rfl, Nat.le_of_ble_eq_true rfl, List.all_eq_true.1 rfl⟩, rfl, rfl⟩
    rintro v g ⟨rfl, hb⟩
    exact ⟨1, rfl, hb⟩
  · refine ⟨2, 2, [scp [109, 97, 112, 115], scp [115, 104, 111, 112]], FnOK.mono (FnOK.ftree (p := 0) SPn_ok mixed Tryz.func41 someCN (cl1 (fun v o => v = .slice (some ⟨1, 0, none⟩) 2 2 ∧ o = some (.cells ⟨[scp [109, 97, 112, 115], scp [115, 104, 111, 112]]⟩ 9 (0, 0)))) ⟨rfl, rfl⟩) ?_, Nat.le_refl _, ⟨Nat.le_of_ble_eq_true rfl, Nat.le_of_ble_eq_true rfl, List.all_eq_true.1 rfl⟩, rfl, rfl⟩
    rintro v g ⟨rfl, hb⟩
    exact ⟨1, rfl, hb⟩
  · refine ⟨1, 1, [scp [109, 97, 112, 115]], FnOK.mono (FnOK.ftree (p := 0) SPn_ok mixed Tryz.func41 someCN (cl2 (fun v o => v = .slice (some ⟨1, 0, none⟩) 1 1 ∧ o = some (.cells ⟨[scp [109, 97, 112, 115]]⟩ 9 (0, 0)))) ⟨rfl, rfl⟩) ?_, Nat.le_refl _, ⟨Nat.le_of_ble_eq_true rfl, Nat.le_of_ble_eq_true rfl, List.all_eq_true.1 rfl⟩, rfl, rfl⟩
    rintro v g ⟨rfl, hb⟩
    exact ⟨1, rfl, hb⟩
end Go.Proofs.YtklednomnpghcaaGreatDoor
