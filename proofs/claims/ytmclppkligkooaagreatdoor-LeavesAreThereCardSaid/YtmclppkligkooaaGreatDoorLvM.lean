/-
  Paths to leaves: Check of a drawn value; Leaves.
-/
import Derived.Test.YtmclppkligkooaaGreatDoorLvL
namespace Go.Ev
open Go.RowKit
theorem FnOK.le3 {p : Nat} {P : Program} {f : FuncId} {a b c c' : Value} {h : AH} {Q : Value → AH → Prop} (hF : FnOK p P f ⟨[a, b, c]⟩ h Q) (hle : ∀ N v', VRel N c' v' → VRel N c v') : FnOK p P f ⟨[a, b, c']⟩ h Q := by
  refine FnOK.refine fun N args' hcr => ⟨_, hF, hcr.1, fun i x y p q => ?_⟩
  match i, p with
  | 0, p => exact hcr.2 0 x y p q
  | 1, p => exact hcr.2 1 x y p q
  | 2, p =>
    have p : c = x := by simpa using p
    subst p
    exact hle _ _ (hcr.2 2 c' y rfl q)
end Go.Ev
namespace Go.Proofs.YtmclppkligkooaaGreatDoor
open Go.Ev Go.RowKit
set_option maxRecDepth 20000

theorem lvF_nil {x : Value} {ts : List Value} (h : LvF x (pathV []) ts) : LvF x nlV ts := by
  obtain ⟨h1, h2, h3, h4, h5⟩ := h
  exact ⟨h1, h2, rfl, fun hb => (h4 hb).le3 Le.nil, fun cs a b c => (h5 cs a b c).le3 Le.nil⟩
/-! Check -/
theorem bnd4 : ∀ n, n ≤ 4 → ValLaw.bnd n ≤ 2801
  | 0, _ => by decide
  | 1, _ => by decide
  | 2, _ => by decide
  | 3, _ => by decide
  | 4, _ => by decide
  | n + 5, h => by omega
noncomputable def SCk (x : Value) (k m : Int) : SC := ⟨idn, spOr (spLg x k m) (spFv x true), true, true⟩
theorem someCK : Tryz.f15.body.isSome = true := by kernel_rfl
theorem cv_eq (k : Int) (f : Bool) (n : Int) (s : ByteArray) (lx ly : List Value) (c m : Int) (Q : Value → Prop) : ffn Tryz.prog (SCk (vV k f n s lx ly) c m) [] 600 [] Tryz.f15 [vV k f n s lx ly] h0 (fun v _ => Q v) =
    bif eqV (vV k f n s lx ly) (vV k f n s lx ly) && true && true && decide (0 + c ≤ 5000) && true && decide (1 + m ≤ 50) && true then bif eqV (vV k f n s lx ly) (vV k f n s lx ly) && true then Q (.int .i64 0) else False else False := by kernel_rfl
theorem cv_fn {v : ValLaw.T 3} (hv : ValLaw.GV 3 v) : FnOK 0 Tryz.prog 15 ⟨[enc 3 v]⟩ h0 (fun u _ => u = .int .i64 0) := by
  have h1 := lg_enc 3 v
  have h2 := fv_enc 3 v hv
  have h3 := ValLaw.gv_sz hv
  have h4 := bnd4 3 (by omega)
  obtain ⟨k, f, n, s, lx, ly, hx⟩ := enc_vV 3 v
  rw [hx] at h1 h2 ⊢
  have e0 := cv_eq k f n s lx ly ((ValLaw.sz 3 v : Nat) : Int) ((3 + 1 : Nat) : Int) (fun u => u = .int .i64 0)
  refine FnOK.ftree (h1.2.or (spFv_ok (ok := true) fun _ => h2)).cfg mixed Tryz.func15 someCK e0 (need_mk ?_ (need_mk (by rw [eqV_self]; rfl) rfl))
  rw [eqV_self, decide_eq_true (by omega), decide_eq_true (by omega)]
  rfl
theorem enc_p2 (n : Nat) (v : ValLaw.T n) : p2 (enc n v) = true := by
  obtain ⟨k, f, m, s, lx, ly, h⟩ := enc_vV n v
  rw [h]; rfl
/-- Check of one value, told beforehand. -/
noncomputable def spC1 (x : Value) (f : FuncId) (args : Array Value) (h : AH) : Option (Bool × Value × AH) :=
  cond (Nat.beq f 15) (match args with
    | ⟨[y]⟩ => some (eqV y x, .int .i64 0, h)
    | _ => none) none
theorem spC1_ok {v : ValLaw.T 3} (hv : ValLaw.GV 3 v) : SpOK (spC1 (enc 3 v)) := by
  have hF := cv_fn hv
  intro f args h v h' hs
  unfold spC1 at hs
  obtain ⟨hf, hs2⟩ := cond_some hs
  clear hs
  have := Nat.eq_of_beq_eq_true hf
  subst this
  split at hs2
  · injection hs2 with hs
    injection hs with hb hs
    injection hs with hv hh
    subst hv hh
    have b1 := eqV_eq hb
    subst b1
    refine ⟨FnOK.pure hF ?_ rfl h, Nat.le_refl _⟩
    show (p2 (enc 3 _) && true) = true
    rw [enc_p2]; rfl
  · cases hs2
/-! Leaves -/
noncomputable def SLs (x : Value) (ts : List Value) : SC := ⟨idn, spOr (spC1 x) (spLv true x nlV ts), true, true⟩
theorem someLE : Tryz.f5.body.isSome = true := by kernel_rfl
theorem oneLE6 : (loopAt (codeOf Tryz.f5) 6).length = 1 := by kernel_rfl
theorem ls_rd (Z zs : List Value) (n i : Int) (B : List Value → AH → Prop) (Q : AExit → List Value → AH → Prop) : once 0 Tryz.prog SP0 [] noHooks 900 26 [5, 15, 16, 17] [] [5] [] (oneLoop (codeOf Tryz.f5) 6) [fz ⟨Z⟩, fz ⟨zs⟩, .int .i64 n, .int .i64 i] h0 B Q =
    bif decide (i < n) then nd (decide (0 ≤ i) && decide (i < ((Array.mk zs).size : Int)) && Nat.beq (fz (toArr (elV zs i))).cells.size 1) (elV zs i = fz (toArr (elV zs i)) ∧ nf' (decide (((toArr (elV zs i)).size : Int) > 50)) (Q .ret [fz ⟨Z⟩] h0) (B [fz ⟨Z⟩, fz ⟨zs⟩, .int .i64 n, .int .i64 (wp i)] h0)) else Q (.exit 0) [fz ⟨Z⟩] h0 := by kernel_rfl
theorem ls_hd (k : Int) (f : Bool) (n : Int) (s : ByteArray) (xs ys ts Z : List Value) (C : List Value → AH → Prop) (Q : Value → Prop) : tfn Tryz.prog (SLs (vV k f n s xs ys) ts) [] (hookOr (ghost1 4 (freezeG 26 false 1 [5])) (hook1 6 (hookLS 0 26 [5, 15, 16, 17] [] [5] (fun vals h K => C vals h ∧ K (.exit 0) [fz ⟨Z⟩] h0)))) 900 [] Tryz.f5 [vV k f n s xs ys] h0 (fun v _ => Q v) =
    nd (eqV (vV k f n s xs ys) (vV k f n s xs ys)) (nd (true && eqV (vV k f n s xs ys) (vV k f n s xs ys) && eqV nlV nlV && Nat.ble ts.length 5000) (nd (((Nat.beq ts.length ts.length && Nat.beq ts.length ts.length) && true) && ts.all p1 && ts.length.ble ts.length && (ts.length * 1).ble ts.length && true)
      (C [fz ⟨chunk false 1 ts.length ts⟩, fz ⟨chunk false 1 ts.length ts⟩, .int .i64 ((Array.mk (chunk false 1 ts.length ts)).size : Int), .int .i64 0] h0 ∧ Q (.tuple ⟨[fz ⟨Z⟩, .int .i64 0]⟩)))) := by kernel_rfl
theorem chunk_one : ∀ ts : List Value, chunk false 1 ts.length ts = ts
  | [] => rfl
  | t :: l => by
    show mkE false 1 (t :: l) :: chunk false 1 l.length l = _
    rw [chunk_one l]
    rfl
theorem ls_loop (K : AExit → List Value → AH → Prop) (ps : List (List ValLaw.Stp)) (hl : ps.length ≤ 5000) (h3 : ∀ p ∈ ps, p.length ≤ 3) (hK : K (.exit 0) [fz ⟨ps.map pathV⟩] h0) : ∀ (r i : Nat), i + r = ps.length → iterE 0 Tryz.prog 26 [5, 15, 16, 17] [] [5] [] (oneLoop (codeOf Tryz.f5) 6) (r + 1) [fz ⟨ps.map pathV⟩, fz ⟨ps.map pathV⟩, .int .i64 (ps.length : Int), .int .i64 (i : Int)] h0 K
  | 0, i, h => by
    refine ⟨SP0, [], noHooks, 900, SP0_ok, loops_none _ _ _ _, ?_⟩
    have e := fun B => ls_rd (ps.map pathV) (ps.map pathV) (ps.length : Int) (i : Int) B K
    exact (e _).mpr (pick_f (decide_eq_false (by omega)) hK)
  | r + 1, i, h => by
    refine ⟨SP0, [], noHooks, 900, SP0_ok, loops_none _ _ _ _, ?_⟩
    have e := fun B => ls_rd (ps.map pathV) (ps.map pathV) (ps.length : Int) (i : Int) B K
    have hi : i < ps.length := by omega
    have ex : elV (ps.map pathV) (i : Int) = pathV (ps[i]'hi) := by
      show (ps.map pathV).getD i undef = _
      simp [List.getD_eq_getElem?_getD, hi]
    have ht : toArr (elV (ps.map pathV) (i : Int)) = ⟨(ps[i]'hi).map stepV⟩ := by rw [ex]; rfl
    refine (e _).mpr (pick_t (decide_eq_true (by omega)) (nd_mk ?_ ⟨?_, pick_f ?_ ?_⟩))
    · simp only [Bool.and_eq_true, decide_eq_true_eq]
      exact ⟨⟨by omega, by simp; omega⟩, rfl⟩
    · rw [ht, ex]; rfl
    · rw [ht]
      have := h3 _ (List.getElem_mem hi)
      refine decide_eq_false ?_
      show ¬ ((((ps[i]'hi).map stepV).length : Int) > 50)
      rw [List.length_map]; omega
    · unfold wp
      rw [wrapS (by omega)]
      exact ls_loop K ps hl h3 hK r (i + 1) (by omega)
def lsR (v : ValLaw.T 3) : Value := .tuple ⟨[fz ⟨(ValLaw.paths 3 v []).map pathV⟩, .int .i64 0]⟩
theorem ls_fn {v : ValLaw.T 3} (hv : ValLaw.GR 3 v) : FnOK 0 Tryz.prog 5 ⟨[enc 3 v]⟩ h0 (fun u _ => u = lsR v) := by
  have hg := ValLaw.gr_gv hv
  have hL := lvF_nil (lv_enc 3 v [] hv (by decide))
  have hlen := ValLaw.paths_len 3 v []
  have hsz := ValLaw.gv_sz hg
  have hb := bnd4 3 (by omega)
  have hp3 : ∀ p ∈ ValLaw.paths 3 v [], p.length ≤ 3 := fun p hp => by
    obtain ⟨r, rfl, hr⟩ := ValLaw.paths_at hp
    exact (ValLaw.at_steps hv hr).1
  have hsC := spC1_ok hg
  have hall := hL.1
  generalize hps : ValLaw.paths 3 v [] = ps at *
  obtain ⟨k, f, n, s, lx, ly, hx⟩ := enc_vV 3 v
  rw [hx] at hL hsC ⊢
  have hlm : (ps.map pathV).length = ps.length := List.length_map ..
  have hsp : LSpec 0 Tryz.prog 26 (oneLoop (codeOf Tryz.f5) 6) (hookLS 0 26 [5, 15, 16, 17] [] [5] (fun vals h K => (vals = [fz ⟨ps.map pathV⟩, fz ⟨ps.map pathV⟩, .int .i64 (ps.length : Int), .int .i64 0] ∧ h = h0) ∧ K (.exit 0) [fz ⟨ps.map pathV⟩] h0)) := by
    refine hookE_ok (sameX := []) mixed (by decide) ?_
    rintro vals h K ⟨⟨rfl, rfl⟩, hK⟩
    exact ⟨_, ls_loop K ps (by omega) hp3 hK ps.length 0 (by omega)⟩
  have e0 := ls_hd k f n s lx ly (ps.map pathV) (ps.map pathV) (fun vals h => vals = [fz ⟨ps.map pathV⟩, fz ⟨ps.map pathV⟩, .int .i64 (ps.length : Int), .int .i64 0] ∧ h = h0) (fun u => u = lsR v)
  rw [chunk_one] at e0
  refine FnOK.ttree (hsC.or (spLv_ok hL)).cfg mixed Tryz.func5 someLE (loops_or (ghosts_one (by kernel_rfl) (freezeG_ok _ _ _ _ _ _)) (loops_one oneLE6 hsp)) e0 (nd_mk (eqV_self _) (nd_mk ?_ (nd_mk ?_ ⟨⟨?_, rfl⟩, ?_⟩)))
  · rw [eqV_self, eqV_self, hlm, Nat.ble_eq_true_of_le (by omega)]; rfl
  · rw [Nat.beq_refl, hall, Nat.mul_one, Nat.ble_eq_true_of_le (Nat.le_refl _)]; rfl
  · show _ = [fz ⟨ps.map pathV⟩, fz ⟨ps.map pathV⟩, .int .i64 (ps.length : Int), .int .i64 0]
    rw [show ((Array.mk (ps.map pathV)).size : Int) = (ps.length : Int) from by show ((ps.map pathV).length : Int) = _; rw [hlm]]
  · unfold lsR; rw [hps]
end Go.Proofs.YtmclppkligkooaaGreatDoor
