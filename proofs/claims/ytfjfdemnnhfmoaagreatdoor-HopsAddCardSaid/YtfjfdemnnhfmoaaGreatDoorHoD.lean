/-
  Headers: the names of one hop, Concat, ContainsFunc; CheckRequest: specifications.
-/
import Derived.Test.YtfjfdemnnhfmoaaGreatDoorHoC
namespace Go.Proofs.YtfjfdemnnhfmoaaGreatDoor
open Go.Ev Go.RowKit RecLaw PathLaw HopLaw

noncomputable def SN0 : SC := ⟨idn, fun _ _ _ => none, true, true⟩
theorem SN0_ok : SN0.cfg.OK Tryz.prog := none_ok.cfg
noncomputable def SNf : SC := ⟨idn, fun _ _ _ => none, false, true⟩
theorem SNf_ok : SNf.cfg.OK Tryz.prog := none_ok.cfg
def hopsB : List (List UInt8) := [[99, 111, 110, 110, 101, 99, 116, 105, 111, 110], [107, 101, 101, 112, 45, 97, 108, 105, 118, 101], [116, 101], [116, 114, 97, 105, 108, 101, 114], [117, 112, 103, 114, 97, 100, 101]]
theorem hn_eq (Q : Value → Option Obj → Prop) : ffn Tryz.prog SN0 [] 600 [] Tryz.f65 [] h0 (fun v h => Q v (h.get 0)) = Q (.slice (some ⟨0, 0, none⟩) 5 5) (some (.cells ⟨hopsB.map strV⟩ 9 (0, 0))) := by kernel_rfl
theorem hn_some : Tryz.f65.body.isSome = true := by kernel_rfl
theorem hn_fn : FnOK 0 Tryz.prog 65 ⟨[]⟩ h0 (fun v _ => v = fz ⟨hopsB.map strV⟩) :=
  FnOK.weak1 ((FnOK.ftree SN0_ok mixed Tryz.func65 hn_some (hn_eq (fun v o => v = .slice (some ⟨0, 0, none⟩) 5 5 ∧ o = some (.cells ⟨hopsB.map strV⟩ 9 (0, 0)))) ⟨rfl, rfl⟩).mono fun v g ⟨e, hg⟩ => by subst e; exact ⟨_, _, freezeS hopsB rfl hg, rfl⟩)
noncomputable def spHn (f : FuncId) (args : Array Value) (h : AH) : Option (Bool × Value × AH) :=
  cond (Nat.beq f 65) (match args with
    | ⟨[]⟩ => some (true, fz ⟨hopsB.map strV⟩, h)
    | _ => none) none
theorem spHn_ok : SpOK spHn := by
  intro f args h v h' hs
  unfold spHn at hs
  obtain ⟨hf, hs2⟩ := cond_some hs
  clear hs
  have := Nat.eq_of_beq_eq_true hf
  subst this
  split at hs2
  · injection hs2 with hs
    injection hs with hb hs
    injection hs with hv hh
    subst hv hh
    exact ⟨FnOK.pure hn_fn rfl rfl h, Nat.le_refl _⟩
  · cases hs2

/-! Concat of two lists -/
def ccH (ps : List Value) : AH := ⟨1, 1, [(0, .cells ⟨[fz ⟨hopsB.map strV⟩, fz ⟨ps⟩]⟩ 30 (0, 0))]⟩
theorem cc0 (Q : Value → Option Obj → Option Obj → Prop) : ffn Tryz.prog SN [] 3000 [] Tryz.f64 [.slice (some ⟨0, 0, none⟩) 2 2] (ccH []) (fun v h => Q v (h.get 0) (h.get (blkOf v))) = Q (.slice (some ⟨1, 0, none⟩) 5 5) (some (.cells ⟨[fz ⟨hopsB.map strV⟩, fz ⟨[]⟩]⟩ 30 (0, 0))) (some (.cells ⟨hopsB.map strV ++ []⟩ 9 (0, 0))) := by kernel_rfl
theorem cc1 (a1 : ByteArray) (Q : Value → Option Obj → Option Obj → Prop) : ffn Tryz.prog SN [] 3000 [] Tryz.f64 [.slice (some ⟨0, 0, none⟩) 2 2] (ccH [.string a1]) (fun v h => Q v (h.get 0) (h.get (blkOf v))) = Q (.slice (some ⟨1, 0, none⟩) 6 6) (some (.cells ⟨[fz ⟨hopsB.map strV⟩, fz ⟨[.string a1]⟩]⟩ 30 (0, 0))) (some (.cells ⟨hopsB.map strV ++ [.string a1]⟩ 9 (0, 0))) := by kernel_rfl
theorem cc2 (a1 a2 : ByteArray) (Q : Value → Option Obj → Option Obj → Prop) : ffn Tryz.prog SN [] 3000 [] Tryz.f64 [.slice (some ⟨0, 0, none⟩) 2 2] (ccH [.string a1, .string a2]) (fun v h => Q v (h.get 0) (h.get (blkOf v))) = Q (.slice (some ⟨1, 0, none⟩) 7 7) (some (.cells ⟨[fz ⟨hopsB.map strV⟩, fz ⟨[.string a1, .string a2]⟩]⟩ 30 (0, 0))) (some (.cells ⟨hopsB.map strV ++ [.string a1, .string a2]⟩ 9 (0, 0))) := by kernel_rfl
theorem cc3 (a1 a2 a3 : ByteArray) (Q : Value → Option Obj → Option Obj → Prop) : ffn Tryz.prog SN [] 3000 [] Tryz.f64 [.slice (some ⟨0, 0, none⟩) 2 2] (ccH [.string a1, .string a2, .string a3]) (fun v h => Q v (h.get 0) (h.get (blkOf v))) = Q (.slice (some ⟨1, 0, none⟩) 8 8) (some (.cells ⟨[fz ⟨hopsB.map strV⟩, fz ⟨[.string a1, .string a2, .string a3]⟩]⟩ 30 (0, 0))) (some (.cells ⟨hopsB.map strV ++ [.string a1, .string a2, .string a3]⟩ 9 (0, 0))) := by kernel_rfl
theorem cc4 (a1 a2 a3 a4 : ByteArray) (Q : Value → Option Obj → Option Obj → Prop) : ffn Tryz.prog SN [] 3000 [] Tryz.f64 [.slice (some ⟨0, 0, none⟩) 2 2] (ccH [.string a1, .string a2, .string a3, .string a4]) (fun v h => Q v (h.get 0) (h.get (blkOf v))) = Q (.slice (some ⟨1, 0, none⟩) 9 9) (some (.cells ⟨[fz ⟨hopsB.map strV⟩, fz ⟨[.string a1, .string a2, .string a3, .string a4]⟩]⟩ 30 (0, 0))) (some (.cells ⟨hopsB.map strV ++ [.string a1, .string a2, .string a3, .string a4]⟩ 9 (0, 0))) := by kernel_rfl
theorem cc5 (a1 a2 a3 a4 a5 : ByteArray) (Q : Value → Option Obj → Option Obj → Prop) : ffn Tryz.prog SN [] 3000 [] Tryz.f64 [.slice (some ⟨0, 0, none⟩) 2 2] (ccH [.string a1, .string a2, .string a3, .string a4, .string a5]) (fun v h => Q v (h.get 0) (h.get (blkOf v))) = Q (.slice (some ⟨1, 0, none⟩) 10 10) (some (.cells ⟨[fz ⟨hopsB.map strV⟩, fz ⟨[.string a1, .string a2, .string a3, .string a4, .string a5]⟩]⟩ 30 (0, 0))) (some (.cells ⟨hopsB.map strV ++ [.string a1, .string a2, .string a3, .string a4, .string a5]⟩ 9 (0, 0))) := by kernel_rfl
theorem cc6 (a1 a2 a3 a4 a5 a6 : ByteArray) (Q : Value → Option Obj → Option Obj → Prop) : ffn Tryz.prog SN [] 3000 [] Tryz.f64 [.slice (some ⟨0, 0, none⟩) 2 2] (ccH [.string a1, .string a2, .string a3, .string a4, .string a5, .string a6]) (fun v h => Q v (h.get 0) (h.get (blkOf v))) = Q (.slice (some ⟨1, 0, none⟩) 11 11) (some (.cells ⟨[fz ⟨hopsB.map strV⟩, fz ⟨[.string a1, .string a2, .string a3, .string a4, .string a5, .string a6]⟩]⟩ 30 (0, 0))) (some (.cells ⟨hopsB.map strV ++ [.string a1, .string a2, .string a3, .string a4, .string a5, .string a6]⟩ 9 (0, 0))) := by kernel_rfl
theorem cc7 (a1 a2 a3 a4 a5 a6 a7 : ByteArray) (Q : Value → Option Obj → Option Obj → Prop) : ffn Tryz.prog SN [] 3000 [] Tryz.f64 [.slice (some ⟨0, 0, none⟩) 2 2] (ccH [.string a1, .string a2, .string a3, .string a4, .string a5, .string a6, .string a7]) (fun v h => Q v (h.get 0) (h.get (blkOf v))) = Q (.slice (some ⟨1, 0, none⟩) 12 12) (some (.cells ⟨[fz ⟨hopsB.map strV⟩, fz ⟨[.string a1, .string a2, .string a3, .string a4, .string a5, .string a6, .string a7]⟩]⟩ 30 (0, 0))) (some (.cells ⟨hopsB.map strV ++ [.string a1, .string a2, .string a3, .string a4, .string a5, .string a6, .string a7]⟩ 9 (0, 0))) := by kernel_rfl
theorem cc8 (a1 a2 a3 a4 a5 a6 a7 a8 : ByteArray) (Q : Value → Option Obj → Option Obj → Prop) : ffn Tryz.prog SN [] 3000 [] Tryz.f64 [.slice (some ⟨0, 0, none⟩) 2 2] (ccH [.string a1, .string a2, .string a3, .string a4, .string a5, .string a6, .string a7, .string a8]) (fun v h => Q v (h.get 0) (h.get (blkOf v))) = Q (.slice (some ⟨1, 0, none⟩) 13 13) (some (.cells ⟨[fz ⟨hopsB.map strV⟩, fz ⟨[.string a1, .string a2, .string a3, .string a4, .string a5, .string a6, .string a7, .string a8]⟩]⟩ 30 (0, 0))) (some (.cells ⟨hopsB.map strV ++ [.string a1, .string a2, .string a3, .string a4, .string a5, .string a6, .string a7, .string a8]⟩ 9 (0, 0))) := by kernel_rfl
theorem cc_some : Tryz.f64.body.isSome = true := by kernel_rfl
theorem cc_fn : ∀ (L : List (List UInt8)), L.length ≤ 8 → FnOK 1 Tryz.prog 64 ⟨[.slice (some ⟨0, 0, none⟩) 2 2]⟩ (ccH (L.map strV)) (fun v g => v = fz ⟨(hopsB ++ L).map strV⟩ ∧ g.get 0 = some (.cells ⟨[fz ⟨hopsB.map strV⟩, fz ⟨L.map strV⟩]⟩ 30 (0, 0)))
  | [], _ => FnOK.weak1 ((FnOK.ftree (p := 1) SN_ok mixed Tryz.func64 cc_some (cc0  (fun v o q => v = .slice (some ⟨1, 0, none⟩) 5 5 ∧ o = some (.cells ⟨[fz ⟨hopsB.map strV⟩, fz ⟨([] : List (List UInt8)).map strV⟩]⟩ 30 (0, 0)) ∧ q = some (.cells ⟨(hopsB ++ []).map strV⟩ 9 (0, 0)))) ⟨rfl, rfl, rfl⟩).mono fun v g ⟨e, h0, hg⟩ => by subst e; exact ⟨_, _, freezeS (hopsB ++ []) rfl hg, rfl, (del_ne (i := 0) (b := 1) (by decide)).trans h0⟩)
  | [a1], _ => FnOK.weak1 ((FnOK.ftree (p := 1) SN_ok mixed Tryz.func64 cc_some (cc1 (bl a1) (fun v o q => v = .slice (some ⟨1, 0, none⟩) 6 6 ∧ o = some (.cells ⟨[fz ⟨hopsB.map strV⟩, fz ⟨([a1] : List (List UInt8)).map strV⟩]⟩ 30 (0, 0)) ∧ q = some (.cells ⟨(hopsB ++ [a1]).map strV⟩ 9 (0, 0)))) ⟨rfl, rfl, rfl⟩).mono fun v g ⟨e, h0, hg⟩ => by subst e; exact ⟨_, _, freezeS (hopsB ++ [a1]) rfl hg, rfl, (del_ne (i := 0) (b := 1) (by decide)).trans h0⟩)
  | [a1, a2], _ => FnOK.weak1 ((FnOK.ftree (p := 1) SN_ok mixed Tryz.func64 cc_some (cc2 (bl a1) (bl a2) (fun v o q => v = .slice (some ⟨1, 0, none⟩) 7 7 ∧ o = some (.cells ⟨[fz ⟨hopsB.map strV⟩, fz ⟨([a1, a2] : List (List UInt8)).map strV⟩]⟩ 30 (0, 0)) ∧ q = some (.cells ⟨(hopsB ++ [a1, a2]).map strV⟩ 9 (0, 0)))) ⟨rfl, rfl, rfl⟩).mono fun v g ⟨e, h0, hg⟩ => by subst e; exact ⟨_, _, freezeS (hopsB ++ [a1, a2]) rfl hg, rfl, (del_ne (i := 0) (b := 1) (by decide)).trans h0⟩)
  | [a1, a2, a3], _ => FnOK.weak1 ((FnOK.ftree (p := 1) SN_ok mixed Tryz.func64 cc_some (cc3 (bl a1) (bl a2) (bl a3) (fun v o q => v = .slice (some ⟨1, 0, none⟩) 8 8 ∧ o = some (.cells ⟨[fz ⟨hopsB.map strV⟩, fz ⟨([a1, a2, a3] : List (List UInt8)).map strV⟩]⟩ 30 (0, 0)) ∧ q = some (.cells ⟨(hopsB ++ [a1, a2, a3]).map strV⟩ 9 (0, 0)))) ⟨rfl, rfl, rfl⟩).mono fun v g ⟨e, h0, hg⟩ => by subst e; exact ⟨_, _, freezeS (hopsB ++ [a1, a2, a3]) rfl hg, rfl, (del_ne (i := 0) (b := 1) (by decide)).trans h0⟩)
  | [a1, a2, a3, a4], _ => FnOK.weak1 ((FnOK.ftree (p := 1) SN_ok mixed Tryz.func64 cc_some (cc4 (bl a1) (bl a2) (bl a3) (bl a4) (fun v o q => v = .slice (some ⟨1, 0, none⟩) 9 9 ∧ o = some (.cells ⟨[fz ⟨hopsB.map strV⟩, fz ⟨([a1, a2, a3, a4] : List (List UInt8)).map strV⟩]⟩ 30 (0, 0)) ∧ q = some (.cells ⟨(hopsB ++ [a1, a2, a3, a4]).map strV⟩ 9 (0, 0)))) ⟨rfl, rfl, rfl⟩).mono fun v g ⟨e, h0, hg⟩ => by subst e; exact ⟨_, _, freezeS (hopsB ++ [a1, a2, a3, a4]) rfl hg, rfl, (del_ne (i := 0) (b := 1) (by decide)).trans h0⟩)
  | [a1, a2, a3, a4, a5], _ => FnOK.weak1 ((FnOK.ftree (p := 1) SN_ok mixed Tryz.func64 cc_some (cc5 (bl a1) (bl a2) (bl a3) (bl a4) (bl a5) (fun v o q => v = .slice (some ⟨1, 0, none⟩) 10 10 ∧ o = some (.cells ⟨[fz ⟨hopsB.map strV⟩, fz ⟨([a1, a2, a3, a4, a5] : List (List UInt8)).map strV⟩]⟩ 30 (0, 0)) ∧ q = some (.cells ⟨(hopsB ++ [a1, a2, a3, a4, a5]).map strV⟩ 9 (0, 0)))) ⟨rfl, rfl, rfl⟩).mono fun v g ⟨e, h0, hg⟩ => by subst e; exact ⟨_, _, freezeS (hopsB ++ [a1, a2, a3, a4, a5]) rfl hg, rfl, (del_ne (i := 0) (b := 1) (by decide)).trans h0⟩)
  | [a1, a2, a3, a4, a5, a6], _ => FnOK.weak1 ((FnOK.ftree (p := 1) SN_ok mixed Tryz.func64 cc_some (cc6 (bl a1) (bl a2) (bl a3) (bl a4) (bl a5) (bl a6) (fun v o q => v = .slice (some ⟨1, 0, none⟩) 11 11 ∧ o = some (.cells ⟨[fz ⟨hopsB.map strV⟩, fz ⟨([a1, a2, a3, a4, a5, a6] : List (List UInt8)).map strV⟩]⟩ 30 (0, 0)) ∧ q = some (.cells ⟨(hopsB ++ [a1, a2, a3, a4, a5, a6]).map strV⟩ 9 (0, 0)))) ⟨rfl, rfl, rfl⟩).mono fun v g ⟨e, h0, hg⟩ => by subst e; exact ⟨_, _, freezeS (hopsB ++ [a1, a2, a3, a4, a5, a6]) rfl hg, rfl, (del_ne (i := 0) (b := 1) (by decide)).trans h0⟩)
  | [a1, a2, a3, a4, a5, a6, a7], _ => FnOK.weak1 ((FnOK.ftree (p := 1) SN_ok mixed Tryz.func64 cc_some (cc7 (bl a1) (bl a2) (bl a3) (bl a4) (bl a5) (bl a6) (bl a7) (fun v o q => v = .slice (some ⟨1, 0, none⟩) 12 12 ∧ o = some (.cells ⟨[fz ⟨hopsB.map strV⟩, fz ⟨([a1, a2, a3, a4, a5, a6, a7] : List (List UInt8)).map strV⟩]⟩ 30 (0, 0)) ∧ q = some (.cells ⟨(hopsB ++ [a1, a2, a3, a4, a5, a6, a7]).map strV⟩ 9 (0, 0)))) ⟨rfl, rfl, rfl⟩).mono fun v g ⟨e, h0, hg⟩ => by subst e; exact ⟨_, _, freezeS (hopsB ++ [a1, a2, a3, a4, a5, a6, a7]) rfl hg, rfl, (del_ne (i := 0) (b := 1) (by decide)).trans h0⟩)
  | [a1, a2, a3, a4, a5, a6, a7, a8], _ => FnOK.weak1 ((FnOK.ftree (p := 1) SN_ok mixed Tryz.func64 cc_some (cc8 (bl a1) (bl a2) (bl a3) (bl a4) (bl a5) (bl a6) (bl a7) (bl a8) (fun v o q => v = .slice (some ⟨1, 0, none⟩) 13 13 ∧ o = some (.cells ⟨[fz ⟨hopsB.map strV⟩, fz ⟨([a1, a2, a3, a4, a5, a6, a7, a8] : List (List UInt8)).map strV⟩]⟩ 30 (0, 0)) ∧ q = some (.cells ⟨(hopsB ++ [a1, a2, a3, a4, a5, a6, a7, a8]).map strV⟩ 9 (0, 0)))) ⟨rfl, rfl, rfl⟩).mono fun v g ⟨e, h0, hg⟩ => by subst e; exact ⟨_, _, freezeS (hopsB ++ [a1, a2, a3, a4, a5, a6, a7, a8]) rfl hg, rfl, (del_ne (i := 0) (b := 1) (by decide)).trans h0⟩)
  | _ :: _ :: _ :: _ :: _ :: _ :: _ :: _ :: _ :: _, h => absurd h (by simp)
noncomputable def okCc (us bs : List Value) : Bool := @decide (us = hopsB.map strV) (Classical.propDecidable _) && bs.all isStr && Nat.ble bs.length 8
noncomputable def spCc (f : FuncId) (args : Array Value) (h : AH) : Option (Bool × Value × AH) :=
  cond (Nat.beq f 64) (match args with
    | ⟨[.slice (some ⟨b, 0, none⟩) 2 2]⟩ => match h.get b with
      | some (.cells ⟨[.func (.yield 0) ⟨us⟩ ⟨[]⟩, .func (.yield 0) ⟨bs⟩ ⟨[]⟩]⟩ t (0, 0)) => some (Nat.beq t 30 && okCc us bs, fz ⟨us ++ bs⟩, h)
      | _ => none
    | _ => none) none
theorem spCc_ok : SpOK spCc := by
  intro f args h v h' hs
  unfold spCc at hs
  obtain ⟨hf, hs2⟩ := cond_some hs
  clear hs
  have := Nat.eq_of_beq_eq_true hf
  subst this
  split at hs2
  · rename_i b
    split at hs2
    · rename_i us bs t hg
      injection hs2 with hs
      injection hs with hb hs
      injection hs with hv hh
      subst hv hh
      unfold okCc at hb
      simp only [Bool.and_eq_true, Nat.ble_eq, decide_eq_true_eq] at hb
      obtain ⟨bt, ⟨rfl, b2⟩, b3⟩ := hb
      have bt := Nat.eq_of_beq_eq_true bt
      subst bt
      have e := blS_eq b2
      have hF := cc_fn (blS bs) (by unfold blS; rw [List.length_map]; exact b3)
      rw [List.map_append, ← e] at hF
      refine ⟨?_, Nat.le_refl _⟩
      refine FnOK.reads (r := [(b, 0)]) (bl := (ccH bs).blocks) (small := [.slice (some ⟨0, 0, none⟩) 2 2]) (by simp [renOk, renB, invB, eqO]) (by simp [ren2s, ren2, ren1, ren0, renB]) ?_ ?_ (hF.mono ?_) rfl
      · intro i o hi
        simp only [ccH, look] at hi
        obtain ⟨h1, h2⟩ := cond_some hi
        cases h2
        exact ⟨b, by rw [Nat.eq_of_beq_eq_true h1]; simp, hg⟩
      · intro i o hi
        simp only [ccH, look] at hi
        obtain ⟨h1, h2⟩ := cond_some hi
        cases h2
        exact ⟨_, _, _, rfl, by intro x hx; simp at hx; rcases hx with rfl | rfl <;> rfl⟩
      · rintro v g ⟨rfl, hg2⟩
        refine ⟨rfl, fun i o hi => ?_⟩
        simp only [ccH, look] at hi
        obtain ⟨h1, h2⟩ := cond_some hi
        cases h2
        rw [← Nat.eq_of_beq_eq_true h1]
        exact hg2
    · cases hs2
  · cases hs2

/-! ContainsFunc: is a value too large? -/
noncomputable def cfT (Q : Value → Prop) : List (ByteArray × ByteArray) → Prop
  | [] => Q (.bool false)
  | p :: r => bif decide ((p.2.size : Int) > 2000) then Q (.bool true) else cfT Q r
theorem cf0 (Q : Value → Prop) : ffn Tryz.prog SNf [] 3000 [] Tryz.f69 [fz ⟨[]⟩, .func (.func 70) ⟨[]⟩ ⟨[]⟩] h0 (fun v _ => Q v) = cfT Q [] := by kernel_rfl
theorem cf1 (a1 b1 : ByteArray) (Q : Value → Prop) : ffn Tryz.prog SNf [] 3000 [] Tryz.f69 [fz ⟨[.agg ⟨[.string a1, .string b1]⟩]⟩, .func (.func 70) ⟨[]⟩ ⟨[]⟩] h0 (fun v _ => Q v) = cfT Q [(a1, b1)] := by kernel_rfl
theorem cf2 (a1 b1 a2 b2 : ByteArray) (Q : Value → Prop) : ffn Tryz.prog SNf [] 3000 [] Tryz.f69 [fz ⟨[.agg ⟨[.string a1, .string b1]⟩, .agg ⟨[.string a2, .string b2]⟩]⟩, .func (.func 70) ⟨[]⟩ ⟨[]⟩] h0 (fun v _ => Q v) = cfT Q [(a1, b1), (a2, b2)] := by kernel_rfl
theorem cf3 (a1 b1 a2 b2 a3 b3 : ByteArray) (Q : Value → Prop) : ffn Tryz.prog SNf [] 3000 [] Tryz.f69 [fz ⟨[.agg ⟨[.string a1, .string b1]⟩, .agg ⟨[.string a2, .string b2]⟩, .agg ⟨[.string a3, .string b3]⟩]⟩, .func (.func 70) ⟨[]⟩ ⟨[]⟩] h0 (fun v _ => Q v) = cfT Q [(a1, b1), (a2, b2), (a3, b3)] := by kernel_rfl
theorem cf4 (a1 b1 a2 b2 a3 b3 a4 b4 : ByteArray) (Q : Value → Prop) : ffn Tryz.prog SNf [] 3000 [] Tryz.f69 [fz ⟨[.agg ⟨[.string a1, .string b1]⟩, .agg ⟨[.string a2, .string b2]⟩, .agg ⟨[.string a3, .string b3]⟩, .agg ⟨[.string a4, .string b4]⟩]⟩, .func (.func 70) ⟨[]⟩ ⟨[]⟩] h0 (fun v _ => Q v) = cfT Q [(a1, b1), (a2, b2), (a3, b3), (a4, b4)] := by kernel_rfl
theorem cf5 (a1 b1 a2 b2 a3 b3 a4 b4 a5 b5 : ByteArray) (Q : Value → Prop) : ffn Tryz.prog SNf [] 3000 [] Tryz.f69 [fz ⟨[.agg ⟨[.string a1, .string b1]⟩, .agg ⟨[.string a2, .string b2]⟩, .agg ⟨[.string a3, .string b3]⟩, .agg ⟨[.string a4, .string b4]⟩, .agg ⟨[.string a5, .string b5]⟩]⟩, .func (.func 70) ⟨[]⟩ ⟨[]⟩] h0 (fun v _ => Q v) = cfT Q [(a1, b1), (a2, b2), (a3, b3), (a4, b4), (a5, b5)] := by kernel_rfl
theorem cf6 (a1 b1 a2 b2 a3 b3 a4 b4 a5 b5 a6 b6 : ByteArray) (Q : Value → Prop) : ffn Tryz.prog SNf [] 3000 [] Tryz.f69 [fz ⟨[.agg ⟨[.string a1, .string b1]⟩, .agg ⟨[.string a2, .string b2]⟩, .agg ⟨[.string a3, .string b3]⟩, .agg ⟨[.string a4, .string b4]⟩, .agg ⟨[.string a5, .string b5]⟩, .agg ⟨[.string a6, .string b6]⟩]⟩, .func (.func 70) ⟨[]⟩ ⟨[]⟩] h0 (fun v _ => Q v) = cfT Q [(a1, b1), (a2, b2), (a3, b3), (a4, b4), (a5, b5), (a6, b6)] := by kernel_rfl
theorem cf7 (a1 b1 a2 b2 a3 b3 a4 b4 a5 b5 a6 b6 a7 b7 : ByteArray) (Q : Value → Prop) : ffn Tryz.prog SNf [] 3000 [] Tryz.f69 [fz ⟨[.agg ⟨[.string a1, .string b1]⟩, .agg ⟨[.string a2, .string b2]⟩, .agg ⟨[.string a3, .string b3]⟩, .agg ⟨[.string a4, .string b4]⟩, .agg ⟨[.string a5, .string b5]⟩, .agg ⟨[.string a6, .string b6]⟩, .agg ⟨[.string a7, .string b7]⟩]⟩, .func (.func 70) ⟨[]⟩ ⟨[]⟩] h0 (fun v _ => Q v) = cfT Q [(a1, b1), (a2, b2), (a3, b3), (a4, b4), (a5, b5), (a6, b6), (a7, b7)] := by kernel_rfl
theorem cf_some : Tryz.f69.body.isSome = true := by kernel_rfl
def bigV (l : List (ByteArray × ByteArray)) : Bool := l.any fun p => decide (2000 < p.2.size)
theorem cfT_ok (Q : Value → Prop) : ∀ l : List (ByteArray × ByteArray), Q (.bool (bigV l)) → cfT Q l
  | [], h => h
  | p :: r, h => by
    unfold bigV at h
    rw [List.any_cons] at h
    by_cases q : 2000 < p.2.size
    · exact pick_t (decide_eq_true (by omega)) (by rw [decide_eq_true q] at h; exact h)
    · exact pick_f (decide_eq_false (by omega)) (cfT_ok Q r (by rw [decide_eq_false q] at h; exact h))
theorem cf_fn : ∀ l : List (ByteArray × ByteArray), l.length ≤ 7 → FnOK 0 Tryz.prog 69 ⟨[fz ⟨l.map hv⟩, .func (.func 70) ⟨[]⟩ ⟨[]⟩]⟩ h0 (fun v _ => v = .bool (bigV l))
  | [], _ => FnOK.ftree SNf_ok mixed Tryz.func69 cf_some (cf0  (fun v => v = .bool (bigV []))) (cfT_ok _ _ rfl)
  | [(a1, b1)], _ => FnOK.ftree SNf_ok mixed Tryz.func69 cf_some (cf1 a1 b1 (fun v => v = .bool (bigV [(a1, b1)]))) (cfT_ok _ _ rfl)
  | [(a1, b1), (a2, b2)], _ => FnOK.ftree SNf_ok mixed Tryz.func69 cf_some (cf2 a1 b1 a2 b2 (fun v => v = .bool (bigV [(a1, b1), (a2, b2)]))) (cfT_ok _ _ rfl)
  | [(a1, b1), (a2, b2), (a3, b3)], _ => FnOK.ftree SNf_ok mixed Tryz.func69 cf_some (cf3 a1 b1 a2 b2 a3 b3 (fun v => v = .bool (bigV [(a1, b1), (a2, b2), (a3, b3)]))) (cfT_ok _ _ rfl)
  | [(a1, b1), (a2, b2), (a3, b3), (a4, b4)], _ => FnOK.ftree SNf_ok mixed Tryz.func69 cf_some (cf4 a1 b1 a2 b2 a3 b3 a4 b4 (fun v => v = .bool (bigV [(a1, b1), (a2, b2), (a3, b3), (a4, b4)]))) (cfT_ok _ _ rfl)
  | [(a1, b1), (a2, b2), (a3, b3), (a4, b4), (a5, b5)], _ => FnOK.ftree SNf_ok mixed Tryz.func69 cf_some (cf5 a1 b1 a2 b2 a3 b3 a4 b4 a5 b5 (fun v => v = .bool (bigV [(a1, b1), (a2, b2), (a3, b3), (a4, b4), (a5, b5)]))) (cfT_ok _ _ rfl)
  | [(a1, b1), (a2, b2), (a3, b3), (a4, b4), (a5, b5), (a6, b6)], _ => FnOK.ftree SNf_ok mixed Tryz.func69 cf_some (cf6 a1 b1 a2 b2 a3 b3 a4 b4 a5 b5 a6 b6 (fun v => v = .bool (bigV [(a1, b1), (a2, b2), (a3, b3), (a4, b4), (a5, b5), (a6, b6)]))) (cfT_ok _ _ rfl)
  | [(a1, b1), (a2, b2), (a3, b3), (a4, b4), (a5, b5), (a6, b6), (a7, b7)], _ => FnOK.ftree SNf_ok mixed Tryz.func69 cf_some (cf7 a1 b1 a2 b2 a3 b3 a4 b4 a5 b5 a6 b6 a7 b7 (fun v => v = .bool (bigV [(a1, b1), (a2, b2), (a3, b3), (a4, b4), (a5, b5), (a6, b6), (a7, b7)]))) (cfT_ok _ _ rfl)
  | _ :: _ :: _ :: _ :: _ :: _ :: _ :: _ :: _, h => absurd h (by simp)
noncomputable def spCf (f : FuncId) (args : Array Value) (h : AH) : Option (Bool × Value × AH) :=
  cond (Nat.beq f 69) (match args with
    | ⟨[.func (.yield 0) ⟨xs⟩ ⟨[]⟩, .func (.func 70) ⟨[]⟩ ⟨[]⟩]⟩ => some (xs.all shpH && Nat.ble xs.length 7, .bool (bigV (hlist xs)), h)
    | _ => none) none
theorem spCf_ok : SpOK spCf := by
  intro f args h v h' hs
  unfold spCf at hs
  obtain ⟨hf, hs2⟩ := cond_some hs
  clear hs
  have := Nat.eq_of_beq_eq_true hf
  subst this
  split at hs2
  · injection hs2 with hs
    injection hs with hb hs
    injection hs with hv hh
    subst hv hh
    rename_i xs
    simp only [Bool.and_eq_true, Nat.ble_eq] at hb
    have hF := cf_fn (hlist xs) (by simpa [hlist] using hb.2)
    rw [shpH_all hb.1] at hF
    exact ⟨FnOK.pure hF rfl rfl h, Nat.le_refl _⟩
  · cases hs2

/-! CheckRequest -/
def hostsU : List ByteArray := [⟨#[97, 46, 98]⟩, ⟨#[65, 46, 66]⟩, ⟨#[97, 46, 98, 58, 56, 48]⟩, ⟨#[99, 46, 100, 58, 56, 48, 56, 48]⟩]
theorem Hs_some : Tryz.f49.body.isSome = true := by kernel_rfl
theorem Hs_r0 : ffn Tryz.prog SN0 [] 3000 [] Tryz.f49 [.string ⟨#[97, 46, 98]⟩] h0 (fun v _ => v = .bool true) = ((.bool true : Value) = .bool true) := by kernel_rfl
theorem Hs_r1 : ffn Tryz.prog SN0 [] 3000 [] Tryz.f49 [.string ⟨#[65, 46, 66]⟩] h0 (fun v _ => v = .bool true) = ((.bool true : Value) = .bool true) := by kernel_rfl
theorem Hs_r2 : ffn Tryz.prog SN0 [] 3000 [] Tryz.f49 [.string ⟨#[97, 46, 98, 58, 56, 48]⟩] h0 (fun v _ => v = .bool true) = ((.bool true : Value) = .bool true) := by kernel_rfl
theorem Hs_r3 : ffn Tryz.prog SN0 [] 3000 [] Tryz.f49 [.string ⟨#[99, 46, 100, 58, 56, 48, 56, 48]⟩] h0 (fun v _ => v = .bool true) = ((.bool true : Value) = .bool true) := by kernel_rfl
theorem Hs_fn (s : ByteArray) (h : inU hostsU s = true) : FnOK 0 Tryz.prog 49 ⟨[.string s]⟩ h0 (fun v _ => v = .bool true) := by
  have h := inU_mem h
  simp only [hostsU, List.mem_cons, List.not_mem_nil, or_false] at h
  rcases h with rfl | rfl | rfl | rfl
  · exact FnOK.ftree SN0_ok mixed Tryz.func49 Hs_some Hs_r0 rfl
  · exact FnOK.ftree SN0_ok mixed Tryz.func49 Hs_some Hs_r1 rfl
  · exact FnOK.ftree SN0_ok mixed Tryz.func49 Hs_some Hs_r2 rfl
  · exact FnOK.ftree SN0_ok mixed Tryz.func49 Hs_some Hs_r3 rfl
noncomputable def spHs (f : FuncId) (args : Array Value) (h : AH) : Option (Bool × Value × AH) :=
  cond (Nat.beq f 49) (match args with
    | ⟨[.string s]⟩ => some (inU hostsU s, .bool true, h)
    | _ => none) none
theorem spHs_ok : SpOK spHs := by
  intro f args h v h' hs
  unfold spHs at hs
  obtain ⟨hf, hs2⟩ := cond_some hs
  clear hs
  have := Nat.eq_of_beq_eq_true hf
  subst this
  split at hs2
  · injection hs2 with hs
    injection hs with hb hs
    injection hs with hv hh
    subst hv hh
    rename_i s
    exact ⟨FnOK.pure (Hs_fn s hb) rfl rfl h, Nat.le_refl _⟩
  · cases hs2
def pathsU : List ByteArray := [⟨#[47]⟩, ⟨#[47, 97]⟩, ⟨#[47, 97, 47, 98]⟩, ⟨#[47, 97, 47, 46, 46, 47, 98]⟩, ⟨#[47, 37, 52, 49]⟩]
theorem Pf_some : Tryz.f39.body.isSome = true := by kernel_rfl
theorem Pf_r0 : ffn Tryz.prog SN0 [] 3000 [] Tryz.f39 [.string ⟨#[47]⟩] h0 (fun v _ => v = .int .i64 0) = ((.int .i64 0 : Value) = .int .i64 0) := by kernel_rfl
theorem Pf_r1 : ffn Tryz.prog SN0 [] 3000 [] Tryz.f39 [.string ⟨#[47, 97]⟩] h0 (fun v _ => v = .int .i64 0) = ((.int .i64 0 : Value) = .int .i64 0) := by kernel_rfl
theorem Pf_r2 : ffn Tryz.prog SN0 [] 3000 [] Tryz.f39 [.string ⟨#[47, 97, 47, 98]⟩] h0 (fun v _ => v = .int .i64 0) = ((.int .i64 0 : Value) = .int .i64 0) := by kernel_rfl
theorem Pf_r3 : ffn Tryz.prog SN0 [] 3000 [] Tryz.f39 [.string ⟨#[47, 97, 47, 46, 46, 47, 98]⟩] h0 (fun v _ => v = .int .i64 0) = ((.int .i64 0 : Value) = .int .i64 0) := by kernel_rfl
theorem Pf_r4 : ffn Tryz.prog SN0 [] 3000 [] Tryz.f39 [.string ⟨#[47, 37, 52, 49]⟩] h0 (fun v _ => v = .int .i64 0) = ((.int .i64 0 : Value) = .int .i64 0) := by kernel_rfl
theorem Pf_fn (s : ByteArray) (h : inU pathsU s = true) : FnOK 0 Tryz.prog 39 ⟨[.string s]⟩ h0 (fun v _ => v = .int .i64 0) := by
  have h := inU_mem h
  simp only [pathsU, List.mem_cons, List.not_mem_nil, or_false] at h
  rcases h with rfl | rfl | rfl | rfl | rfl
  · exact FnOK.ftree SN0_ok mixed Tryz.func39 Pf_some Pf_r0 rfl
  · exact FnOK.ftree SN0_ok mixed Tryz.func39 Pf_some Pf_r1 rfl
  · exact FnOK.ftree SN0_ok mixed Tryz.func39 Pf_some Pf_r2 rfl
  · exact FnOK.ftree SN0_ok mixed Tryz.func39 Pf_some Pf_r3 rfl
  · exact FnOK.ftree SN0_ok mixed Tryz.func39 Pf_some Pf_r4 rfl
noncomputable def spPf (f : FuncId) (args : Array Value) (h : AH) : Option (Bool × Value × AH) :=
  cond (Nat.beq f 39) (match args with
    | ⟨[.string s]⟩ => some (inU pathsU s, .int .i64 0, h)
    | _ => none) none
theorem spPf_ok : SpOK spPf := by
  intro f args h v h' hs
  unfold spPf at hs
  obtain ⟨hf, hs2⟩ := cond_some hs
  clear hs
  have := Nat.eq_of_beq_eq_true hf
  subst this
  split at hs2
  · injection hs2 with hs
    injection hs with hb hs
    injection hs with hv hh
    subst hv hh
    rename_i s
    exact ⟨FnOK.pure (Pf_fn s hb) rfl rfl h, Nat.le_refl _⟩
  · cases hs2
def qrsU : List ByteArray := [⟨#[]⟩, ⟨#[120, 61, 49]⟩, ⟨#[98, 61, 50, 38, 97, 61, 49]⟩]
theorem Qf_some : Tryz.f90.body.isSome = true := by kernel_rfl
theorem Qf_r0 : ffn Tryz.prog SN0 [] 3000 [] Tryz.f90 [.string ⟨#[]⟩] h0 (fun v _ => v = .int .i64 0) = ((.int .i64 0 : Value) = .int .i64 0) := by kernel_rfl
theorem Qf_r1 : ffn Tryz.prog SN0 [] 3000 [] Tryz.f90 [.string ⟨#[120, 61, 49]⟩] h0 (fun v _ => v = .int .i64 0) = ((.int .i64 0 : Value) = .int .i64 0) := by kernel_rfl
theorem Qf_r2 : ffn Tryz.prog SN0 [] 3000 [] Tryz.f90 [.string ⟨#[98, 61, 50, 38, 97, 61, 49]⟩] h0 (fun v _ => v = .int .i64 0) = ((.int .i64 0 : Value) = .int .i64 0) := by kernel_rfl
theorem Qf_fn (s : ByteArray) (h : inU qrsU s = true) : FnOK 0 Tryz.prog 90 ⟨[.string s]⟩ h0 (fun v _ => v = .int .i64 0) := by
  have h := inU_mem h
  simp only [qrsU, List.mem_cons, List.not_mem_nil, or_false] at h
  rcases h with rfl | rfl | rfl
  · exact FnOK.ftree SN0_ok mixed Tryz.func90 Qf_some Qf_r0 rfl
  · exact FnOK.ftree SN0_ok mixed Tryz.func90 Qf_some Qf_r1 rfl
  · exact FnOK.ftree SN0_ok mixed Tryz.func90 Qf_some Qf_r2 rfl
noncomputable def spQf (f : FuncId) (args : Array Value) (h : AH) : Option (Bool × Value × AH) :=
  cond (Nat.beq f 90) (match args with
    | ⟨[.string s]⟩ => some (inU qrsU s, .int .i64 0, h)
    | _ => none) none
theorem spQf_ok : SpOK spQf := by
  intro f args h v h' hs
  unfold spQf at hs
  obtain ⟨hf, hs2⟩ := cond_some hs
  clear hs
  have := Nat.eq_of_beq_eq_true hf
  subst this
  split at hs2
  · injection hs2 with hs
    injection hs with hb hs
    injection hs with hv hh
    subst hv hh
    rename_i s
    exact ⟨FnOK.pure (Qf_fn s hb) rfl rfl h, Nat.le_refl _⟩
  · cases hs2
noncomputable def SCr : SC := ⟨idn, spOr spTok (spOr spHs (spOr spPf (spOr spQf (spOr spFld spChk)))), true, true⟩
theorem SCr_ok : SCr.cfg.OK Tryz.prog := (spTok_ok.or (spHs_ok.or (spPf_ok.or (spQf_ok.or (spFld_ok.or spChk_ok))))).cfg
/-- A request as a value. -/
def rqV (a : Int) (m ho p q f : ByteArray) (l : List (ByteArray × ByteArray)) (b : ByteArray) : Value := .agg ⟨[.int .i64 a, .string m, .string ho, .string p, .string q, .string f, fz ⟨l.map hv⟩, .string b]⟩
theorem cr_some : Tryz.f35.body.isSome = true := by kernel_rfl
end Go.Proofs.YtfjfdemnnhfmoaaGreatDoor
