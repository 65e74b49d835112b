/-
  Paths to leaves: the law's run.
-/
import Derived.Test.YtmclppkligkooaaGreatDoorLvP
namespace Go.Proofs.YtmclppkligkooaaGreatDoor
open Go.Ev Go.RowKit
set_option maxRecDepth 20000

noncomputable def spG (ok : Bool) (y P v : Value) (f : FuncId) (args : Array Value) (h : AH) : Option (Bool × Value × AH) :=
  cond (Nat.beq f 6) (match args with
    | ⟨[u, q]⟩ => some (ok && eqV u y && eqV q P, .tuple ⟨[v, .bool true, .int .i64 0]⟩, h)
    | _ => none) none
noncomputable def spP (ok : Bool) (P : Value) (T : ByteArray) (f : FuncId) (args : Array Value) (h : AH) : Option (Bool × Value × AH) :=
  cond (Nat.beq f 7) (match args with
    | ⟨[q]⟩ => some (ok && eqV q P, .tuple ⟨[.string T, .int .i64 0]⟩, h)
    | _ => none) none
noncomputable def spR (ok : Bool) (P : Value) (T : ByteArray) (f : FuncId) (args : Array Value) (h : AH) : Option (Bool × Value × AH) :=
  cond (Nat.beq f 8) (match args with
    | ⟨[q]⟩ => some (ok && eqV q (.string T), .tuple ⟨[P, .int .i64 0, .int .i64 0]⟩, h)
    | _ => none) none
noncomputable def spE (ok : Bool) (P : Value) (f : FuncId) (args : Array Value) (h : AH) : Option (Bool × Value × AH) :=
  cond (Nat.beq f 9) (match args with
    | ⟨[q, r]⟩ => some (ok && eqV q P && eqV r P, .bool true, h)
    | _ => none) none
theorem spG_ok {ok : Bool} {y P v : Value} (hy : p2 y = true) (hP : p2 P = true) (hv : p2 v = true) (hF : ok = true → FnOK 0 Tryz.prog 6 ⟨[y, P]⟩ h0 (fun u _ => u = .tuple ⟨[v, .bool true, .int .i64 0]⟩)) : SpOK (spG ok y P v) := by
  intro f args h v' h' hsp
  unfold spG at hsp
  obtain ⟨hf, hs2⟩ := cond_some hsp
  clear hsp
  have := Nat.eq_of_beq_eq_true hf
  subst this
  split at hs2
  · injection hs2 with hs3
    injection hs3 with hb hs3
    injection hs3 with hv hh
    subst hv hh
    try simp only [Bool.and_eq_true] at hb
    obtain ⟨⟨b0, b1⟩, b2⟩ := hb
    have b1 := eqV_eq b1
    have b2 := eqV_eq b2
    subst b1 b2
    refine ⟨FnOK.pure (hF b0) ?_ ?_ h, Nat.le_refl _⟩
    · show (p2 _ && (p2 _ && true)) = true
      rw [hy, hP]; rfl
    · show (p2 v && (p2 (.bool true) && (p2 (.int .i64 0) && true))) = true
      rw [hv]; rfl
  · cases hs2
theorem spP_ok {ok : Bool} {P : Value} {T : ByteArray} (hP : p2 P = true) (hF : ok = true → FnOK 0 Tryz.prog 7 ⟨[P]⟩ h0 (fun u _ => u = .tuple ⟨[.string T, .int .i64 0]⟩)) : SpOK (spP ok P T) := by
  intro f args h v h' hsp
  unfold spP at hsp
  obtain ⟨hf, hs2⟩ := cond_some hsp
  clear hsp
  have := Nat.eq_of_beq_eq_true hf
  subst this
  split at hs2
  · injection hs2 with hs3
    injection hs3 with hb hs3
    injection hs3 with hv hh
    subst hv hh
    try simp only [Bool.and_eq_true] at hb
    obtain ⟨b0, b1⟩ := hb
    have b1 := eqV_eq b1
    subst b1
    refine ⟨FnOK.pure (hF b0) ?_ rfl h, Nat.le_refl _⟩
    show (p2 _ && true) = true
    rw [hP]; rfl
  · cases hs2
theorem spR_ok {ok : Bool} {P : Value} {T : ByteArray} (hP : p2 P = true) (hF : ok = true → FnOK 0 Tryz.prog 8 ⟨[.string T]⟩ h0 (fun u _ => u = .tuple ⟨[P, .int .i64 0, .int .i64 0]⟩)) : SpOK (spR ok P T) := by
  intro f args h v h' hsp
  unfold spR at hsp
  obtain ⟨hf, hs2⟩ := cond_some hsp
  clear hsp
  have := Nat.eq_of_beq_eq_true hf
  subst this
  split at hs2
  · injection hs2 with hs3
    injection hs3 with hb hs3
    injection hs3 with hv hh
    subst hv hh
    try simp only [Bool.and_eq_true] at hb
    obtain ⟨b0, b1⟩ := hb
    have b1 := eqV_eq b1
    subst b1
    refine ⟨FnOK.pure (hF b0) rfl ?_ h, Nat.le_refl _⟩
    show (p2 P && (p2 (.int .i64 0) && (p2 (.int .i64 0) && true))) = true
    rw [hP]; rfl
  · cases hs2
theorem spE_ok {ok : Bool} {P : Value} (hP : p2 P = true) (hF : ok = true → FnOK 0 Tryz.prog 9 ⟨[P, P]⟩ h0 (fun u _ => u = .bool true)) : SpOK (spE ok P) := by
  intro f args h v h' hsp
  unfold spE at hsp
  obtain ⟨hf, hs2⟩ := cond_some hsp
  clear hsp
  have := Nat.eq_of_beq_eq_true hf
  subst this
  split at hs2
  · injection hs2 with hs3
    injection hs3 with hb hs3
    injection hs3 with hv hh
    subst hv hh
    try simp only [Bool.and_eq_true] at hb
    obtain ⟨⟨b0, b1⟩, b2⟩ := hb
    have b1 := eqV_eq b1
    have b2 := eqV_eq b2
    subst b1
    subst b2
    refine ⟨FnOK.pure (hF b0) ?_ rfl h, Nat.le_refl _⟩
    show (p2 _ && (p2 _ && true)) = true
    rw [hP]; rfl
  · cases hs2
noncomputable def SLw (ok : Bool) (y P v : Value) (T : ByteArray) : SC := ⟨idn, spOr (spG ok y P v) (spOr (spP ok P T) (spOr (spR ok P T) (spE ok P))), true, true⟩
def bH (k : Int) (f : Bool) (n : Int) (s : ByteArray) (xs ys : List Value) : AH := ⟨1, 1, [(0, bO k f n s xs ys)]⟩
theorem lw_rd (ok : Bool) (X : List Value) (T : ByteArray) (y : Value) (k2 : Int) (f2 : Bool) (n2 : Int) (s2 : ByteArray) (k : Int) (f : Bool) (n : Int) (s : ByteArray) (xs ys zs : List Value) (m i : Int) (B : List Value → AH → Prop) (Q : AExit → List Value → AH → Prop) :
    once 0 Tryz.prog (SLw ok y (fz ⟨X⟩) (vV k2 f2 n2 s2 [] []) T) [] noHooks 2000 90 [4, 34, 35, 36] [0] [4] [0] (oneLoop (codeOf Tryz.f3) 7) [p0V, fz ⟨zs⟩, .int .i64 m, .int .i64 i] (bH k f n s xs ys) B Q =
    bif decide (i < m) then nd (decide (0 ≤ i) && decide (i < ((Array.mk zs).size : Int)) && Nat.beq (fz (toArr (elV zs i))).cells.size 1) (elV zs i = fz (toArr (elV zs i)) ∧
      nd (ok && eqV (vV k f n s xs ys) y && eqV (fz (toArr (elV zs i))) (fz ⟨X⟩)) (nd (ok && eqV (fz (toArr (elV zs i))) (fz ⟨X⟩)) (nd (ok && eqV (.string T) (.string T)) (nd (ok && eqV (fz (toArr (elV zs i))) (fz ⟨X⟩) && eqV (fz ⟨X⟩) (fz ⟨X⟩))
        (NoNames (bO k f n s xs ys) ∧ B [p0V, fz ⟨zs⟩, .int .i64 m, .int .i64 (wp i)] (bH k f n s xs ys))))))
    else NoNames (bO k f n s xs ys) ∧ Q (.exit 0) [p0V] (bH k f n s xs ys) := by kernel_rfl
noncomputable def spLs (x : Value) (Z : List Value) (f : FuncId) (args : Array Value) (h : AH) : Option (Bool × Value × AH) :=
  cond (Nat.beq f 5) (match args with
    | ⟨[u]⟩ => some (eqV u x, .tuple ⟨[fz ⟨Z⟩, .int .i64 0]⟩, h)
    | _ => none) none
theorem spLs_ok {x : Value} {Z : List Value} (hx : p2 x = true) (hF : FnOK 0 Tryz.prog 5 ⟨[x]⟩ h0 (fun u _ => u = .tuple ⟨[fz ⟨Z⟩, .int .i64 0]⟩)) : SpOK (spLs x Z) := by
  intro f args h v h' hsp
  unfold spLs at hsp
  obtain ⟨hf, hs2⟩ := cond_some hsp
  clear hsp
  have := Nat.eq_of_beq_eq_true hf
  subst this
  split at hs2
  · injection hs2 with hs3
    injection hs3 with hb hs3
    injection hs3 with hv hh
    subst hv hh
    try simp only [Bool.and_eq_true] at hb
    have b1 := eqV_eq hb
    subst b1
    refine ⟨FnOK.pure hF ?_ rfl h, Nat.le_refl _⟩
    show (p2 _ && true) = true
    rw [hx]; rfl
  · cases hs2
noncomputable def SLh (X : Array Value) (e1 : Int) (x : Value) (Z : List Value) : SC := ⟨idn, spOr spReady (spOr (spRv true X 0 e1 3 x) (spLs x Z)), true, true⟩
theorem someLW : Tryz.f3.body.isSome = true := by kernel_rfl
theorem oneLW7 : (loopAt (codeOf Tryz.f3) 7).length = 1 := by kernel_rfl
theorem lw_hd (X : Array Value) (e1 : Int) (Z : List Value) (k : Int) (f : Bool) (n : Int) (s : ByteArray) (xs ys : List Value) (C : List Value → AH → Prop) (Q : Value → Prop) :
    tfn Tryz.prog (SLh X e1 (vV k f n s xs ys) Z) [] (hook1 7 (hookLS 0 90 [4, 34, 35, 36] [0] [4] (fun vals h K => C vals h ∧ K (.exit 0) [p0V] (bH k f n s xs ys)))) 2000 [] Tryz.f3 [fz X] h0 (fun v _ => Q v) =
    nd (true && true && eqV (fz X) (fz X) && true && true && true) (nd (eqV (vV k f n s xs ys) (vV k f n s xs ys)) (nf' (((Array.mk Z).size : Int) == 0) (Q (.bool false)) (NoNames (bO k f n s xs ys) ∧ C [p0V, fz ⟨Z⟩, .int .i64 ((Array.mk Z).size : Int), .int .i64 0] (bH k f n s xs ys) ∧ Q (.bool true)))) := by kernel_rfl
theorem lw_loop {v : ValLaw.T 3} (hv : ValLaw.GR 3 v) {k : Int} {f : Bool} {n : Int} {s : ByteArray} {xs ys : List Value} (hx : enc 3 v = vV k f n s xs ys) (ps : List (List ValLaw.Stp)) (hl : ps.length ≤ 5000) (hA : ∀ p ∈ ps, ValLaw.At 3 v p) (K : AExit → List Value → AH → Prop) (hK : K (.exit 0) [p0V] (bH k f n s xs ys)) : ∀ (r i : Nat), i + r = ps.length → iterE 0 Tryz.prog 90 [4, 34, 35, 36] [0] [4] [0] (oneLoop (codeOf Tryz.f3) 7) (r + 1) [p0V, fz ⟨ps.map pathV⟩, .int .i64 (ps.length : Int), .int .i64 (i : Int)] (bH k f n s xs ys) K
  | 0, i, h => by
    refine ⟨SLw false (.int .i64 0) (fz ⟨[]⟩) (vV 0 false 0 ⟨#[]⟩ [] []) ⟨#[]⟩, [], noHooks, 2000, ((spG_ok rfl rfl rfl (fun q => by cases q)).or ((spP_ok rfl (fun q => by cases q)).or ((spR_ok rfl (fun q => by cases q)).or (spE_ok rfl (fun q => by cases q))))).cfg, loops_none _ _ _ _, ?_⟩
    have e := fun B => lw_rd false [] ⟨#[]⟩ (.int .i64 0) 0 false 0 ⟨#[]⟩ k f n s xs ys (ps.map pathV) (ps.length : Int) (i : Int) B K
    exact (e _).mpr (pick_f (decide_eq_false (by omega)) ⟨nn_box _ _ _ _ _ _, hK⟩)
  | r + 1, i, h => by
    have hi : i < ps.length := by omega
    have hAp := hA _ (List.getElem_mem hi)
    have hp : okP (ps[i]'hi) := ValLaw.at_steps hv hAp
    have ex : elV (ps.map pathV) (i : Int) = pathV (ps[i]'hi) := by
      show (ps.map pathV).getD i undef = _
      simp [List.getD_eq_getElem?_getD, hi]
    have ht : fz (toArr (elV (ps.map pathV) (i : Int))) = pathV (ps[i]'hi) := by rw [ex]; rfl
    generalize ps[i]'hi = p at hAp hp ex ht
    obtain ⟨k2, f2, n2, s2, hG⟩ := gt_fn hv hAp
    rw [hx] at hG
    have hP := pt_fn hp
    have hR := rp_fn hp
    have hE := eq_fn hp.1
    refine ⟨SLw true (vV k f n s xs ys) (pathV p) (vV k2 f2 n2 s2 [] []) (bl (ValLaw.pathT p)), [], noHooks, 2000, ((spG_ok rfl rfl rfl (fun _ => hG)).or ((spP_ok rfl (fun _ => hP)).or ((spR_ok rfl (fun _ => hR)).or (spE_ok rfl (fun _ => hE))))).cfg, loops_none _ _ _ _, ?_⟩
    have e := fun B => lw_rd true (p.map stepV) (bl (ValLaw.pathT p)) (vV k f n s xs ys) k2 f2 n2 s2 k f n s xs ys (ps.map pathV) (ps.length : Int) (i : Int) B K
    have hself : fz (⟨p.map stepV⟩ : Array Value) = pathV p := rfl
    refine (e _).mpr (pick_t (decide_eq_true (by omega)) (nd_mk ?_ ⟨?_, nd_mk ?_ (nd_mk ?_ (nd_mk ?_ (nd_mk ?_ ⟨nn_box _ _ _ _ _ _, ?_⟩)))⟩))
    · simp only [Bool.and_eq_true, decide_eq_true_eq]
      exact ⟨⟨by omega, by show (i : Int) < ((ps.map pathV).length : Int); rw [List.length_map]; omega⟩, rfl⟩
    · rw [ht, ex]
    · rw [ht, hself, eqV_self, eqV_self]; rfl
    · rw [ht, hself, eqV_self]; rfl
    · rw [eqV_self]; rfl
    · rw [ht, hself, eqV_self]; rfl
    · unfold wp
      rw [wrapS (by omega)]
      exact lw_loop hv hx ps hl hA K hK r (i + 1) (by omega)
theorem lw_fn (zs : List Int) : FnOK 0 Tryz.prog 3 ⟨[fz (intsV zs)]⟩ h0 (fun v _ => v = .bool true) := by
  obtain ⟨v, e1, hv, hF⟩ : ∃ (v : ValLaw.T 3) (e1 : Int), ValLaw.GR 3 v ∧ RvF (intsV zs) 3 0 e1 (enc 3 v) := by
    obtain ⟨v, e1, hv, _, _, hF⟩ := rv_exS (by decide) (rv_ex zs).2.2 0 (by omega) (by decide)
    exact ⟨v, e1, hv, hF⟩
  have hL := ls_fn hv
  have hlen := ValLaw.paths_len 3 v []
  have hsz := ValLaw.gv_sz (ValLaw.gr_gv hv)
  have hb := bnd4 3 (by omega)
  have hne := ValLaw.paths_ne 3 v []
  have hA : ∀ p ∈ ValLaw.paths 3 v [], ValLaw.At 3 v p := fun p hp => by
    obtain ⟨r, rfl, hr⟩ := ValLaw.paths_at hp
    exact hr
  have hL : FnOK 0 Tryz.prog 5 ⟨[enc 3 v]⟩ h0 (fun u _ => u = .tuple ⟨[fz ⟨(ValLaw.paths 3 v []).map pathV⟩, .int .i64 0]⟩) := hL
  generalize hps : ValLaw.paths 3 v [] = ps at *
  obtain ⟨k, f, n, s, xs, ys, hx⟩ := enc_vV 3 v
  rw [hx] at hL hF
  have hlm : ((Array.mk (ps.map pathV)).size : Int) = (ps.length : Int) := by
    show ((ps.map pathV).length : Int) = _
    rw [List.length_map]
  have hpos : 0 < ps.length := List.length_pos_iff.2 hne
  have hsp : LSpec 0 Tryz.prog 90 (oneLoop (codeOf Tryz.f3) 7) (hookLS 0 90 [4, 34, 35, 36] [0] [4] (fun vals h K => (vals = [p0V, fz ⟨ps.map pathV⟩, .int .i64 (ps.length : Int), .int .i64 0] ∧ h = bH k f n s xs ys) ∧ K (.exit 0) [p0V] (bH k f n s xs ys))) := by
    refine hookE_ok (sameX := [0]) mixed (by decide) ?_
    rintro vals h K ⟨⟨rfl, rfl⟩, hK⟩
    exact ⟨_, lw_loop hv hx ps (by omega) hA K hK ps.length 0 (by omega)⟩
  have e0 := lw_hd (intsV zs) e1 (ps.map pathV) k f n s xs ys (fun vals h => vals = [p0V, fz ⟨ps.map pathV⟩, .int .i64 (ps.length : Int), .int .i64 0] ∧ h = bH k f n s xs ys) (fun v => v = .bool true)
  rw [hlm] at e0
  exact FnOK.ttree (spReady_ok.or ((spRv_ok (fun _ => ⟨rfl, hF⟩)).or (spLs_ok rfl hL))).cfg mixed Tryz.func3 someLW (loops_one oneLW7 hsp) e0 (nd_mk (by rw [eqV_self]; rfl) (nd_mk (eqV_self _) (pick_f (beq_eq_false_iff_ne.2 (by omega)) ⟨nn_box _ _ _ _ _ _, ⟨rfl, rfl⟩, rfl⟩)))
end Go.Proofs.YtmclppkligkooaaGreatDoor
