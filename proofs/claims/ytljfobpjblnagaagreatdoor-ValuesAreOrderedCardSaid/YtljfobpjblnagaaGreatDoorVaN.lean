/-
  Values near another one: Near by existence: plain kinds, lists.
-/
import Derived.Test.YtljfobpjblnagaaGreatDoorVaM
namespace Go.Ev
open Go.RowKit
/-- What holds at each way to tell the arguments holds. -/
theorem FnOK.refine {p : Nat} {P : Program} {f : FuncId} {args : Array Value} {h : AH} {Q : Value → AH → Prop} (hx : ∀ N args', CRel N args args' → ∃ args2, FnOK p P f args2 h Q ∧ CRel N args2 args') : FnOK p P f args h Q := by
  intro N w args' hargs hr hf
  obtain ⟨a2, h1, h2⟩ := hx N args' hargs
  exact h1 N w args' h2 hr hf
end Go.Ev
namespace Go.Proofs.YtljfobpjblnagaaGreatDoor
open Go.Ev Go.RowKit
set_option maxRecDepth 100000

theorem enc_p2 (n : Nat) (v : ValLaw.T n) : p2 (enc n v) = true := by
  obtain ⟨k, f, m, s, lx, ly, h⟩ := enc_vV n v
  rw [h]; rfl
def mN : Nat → Nat
  | 0 => 2000
  | n + 1 => 2000 + 7 * (2 + mN n)
def NrF (X : Array Value) (e e1 : Int) (x y : Value) : Prop := FnOK 1 Tryz.prog 5 ⟨[p0V, x]⟩ (Ev.h1 (strm X e)) (fun u g => u = y ∧ g.get 0 = some (strm X e1))
def NearEx (zs : List Int) (n : Nat) : Prop := ∀ (v : ValLaw.T n), ValLaw.GR n v → ∀ e : Int, 0 ≤ e → e + (mN n : Int) ≤ 900000 → ∃ (w : ValLaw.T (n + 2)) (e' : Int), ValLaw.GV (n + 2) w ∧ e ≤ e' ∧ e' ≤ e + (mN n : Int) ∧ NrF (intsV zs) e e' (enc n v) (enc (n + 2) w)
theorem enc_up : ∀ (n : Nat) (v : ValLaw.T n), enc (n + 1) (ValLaw.up n v) = enc n v
  | 0, _ => rfl
  | n + 1, v => by
    show vV v.1.1 v.1.2.1 v.1.2.2.1 (bl v.1.2.2.2) ((v.2.1.map (ValLaw.up n)).map (enc (n + 1))) ((v.2.2.map fun p => (p.1, ValLaw.up n p.2)).map fun p => mbr p.1 (enc (n + 1) p.2)) = vV _ _ _ _ (v.2.1.map (enc n)) (v.2.2.map fun p => mbr p.1 (enc n p.2))
    rw [List.map_map, List.map_map]
    congr 1
    · exact List.map_congr_left fun x _ => enc_up n x
    · refine List.map_congr_left fun p _ => ?_
      show mbr p.1 (enc (n + 1) (ValLaw.up n p.2)) = _
      rw [enc_up n p.2]
def up2 (m : Nat) (v : ValLaw.T m) : ValLaw.T (m + 2) := ValLaw.up (m + 1) (ValLaw.up m v)
theorem up2_enc (m : Nat) (v : ValLaw.T m) : enc (m + 2) (up2 m v) = enc m v := (enc_up (m + 1) _).trans (enc_up m v)
theorem up2_gv {m : Nat} {v : ValLaw.T m} (h : ValLaw.GV m v) : ValLaw.GV (m + 2) (up2 m v) := ValLaw.gv_up (ValLaw.gv_up h)
theorem t1_up : ∀ (k : Nat) {x : ValLaw.T 1}, ValLaw.GR 1 x → ∃ w : ValLaw.T (k + 1), ValLaw.GV (k + 1) w ∧ enc (k + 1) w = enc 1 x
  | 0, x, h => ⟨x, ValLaw.gr_gv h, rfl⟩
  | k + 1, x, h => by
    obtain ⟨w, h1, h2⟩ := t1_up k h
    exact ⟨ValLaw.up (k + 1) w, ValLaw.gv_up h1, (enc_up _ _).trans h2⟩
theorem t2_up : ∀ (k : Nat) {x : ValLaw.T 2}, ValLaw.GR 2 x → ∃ w : ValLaw.T (k + 2), ValLaw.GV (k + 2) w ∧ enc (k + 2) w = enc 2 x
  | 0, x, h => ⟨x, ValLaw.gr_gv h, rfl⟩
  | k + 1, x, h => by
    obtain ⟨w, h1, h2⟩ := t2_up k h
    exact ⟨ValLaw.up (k + 2) w, ValLaw.gv_up h1, (enc_up _ _).trans h2⟩
theorem spRw_ok {zs : List Int} {oa ob : Bool} {ea ea' eb eb' : Int} {xa xb : Value} (hA : oa = true → p3 xa = true ∧ RvF (intsV zs) 2 ea ea' xa) (hB : ob = true → p3 xb = true ∧ RvF (intsV zs) 1 eb eb' xb) : SpOK (spRw (intsV zs) oa ea ea' xa ob eb eb' xb) := by
  intro f args h v h' hs
  unfold spRw at hs
  obtain ⟨hf, hs2⟩ := cond_some hs
  clear hs
  have := Nat.eq_of_beq_eq_true hf
  subst this
  have go : ∀ {ok : Bool} {e e' : Int} {x : Value} {b : Nat} {xs : Array Value} {at_ d : Int} {t : TypeId}, (ok = true → p3 x = true ∧ RvF (intsV zs) d e e' x) → h.get b = some (.cells ⟨[.func (.yield 0) xs ⟨[]⟩, .int .i64 at_]⟩ t (0, 0)) → tRv ok (intsV zs) e e' x b xs at_ t h = some (true, v, h') → CallOK Tryz.prog 4 ⟨[.pointer (some ⟨b, 0, none⟩), .int .i64 d]⟩ h v h' ∧ h.next ≤ h'.next := by
    intro ok e e' x b xs at_ d t hF hg hs
    unfold tRv at hs
    injection hs with hs
    injection hs with hb hs
    injection hs with hv hh
    subst hv hh
    simp only [Bool.and_eq_true, decide_eq_true_eq] at hb
    obtain ⟨⟨⟨⟨b0, b1⟩, b2⟩, b3⟩, b5⟩ := hb
    have b1 := Nat.eq_of_beq_eq_true b1
    have b2 := eqV_eq b2
    unfold fz at b2
    injection b2 with _ b2 _
    subst b1 b2 b3
    obtain ⟨q1, q2⟩ := hF b0
    exact ⟨FnOK.ref (cs := ⟨[fz (intsV zs), .int .i64 at_]⟩) (cs' := ⟨[fz (intsV zs), .int .i64 e']⟩) (args := [.int .i64 d]) q2 rfl (by simp [p1, fz]) (by simp [p1, fz]) q1 hg, Nat.le_refl _⟩
  split at hs2
  · rename_i b d
    split at hs2
    · rename_i xs at_ t hg
      by_cases h2 : d = 2
      · rw [decide_eq_true h2] at hs2
        subst h2
        exact go hA hg hs2
      · rw [decide_eq_false h2] at hs2
        by_cases h1 : d = 1
        · have hs2 : cond (decide (d = 1)) (tRv ob (intsV zs) eb eb' xb b xs at_ t h) none = some (true, v, h') := hs2
          rw [decide_eq_true h1] at hs2
          subst h1
          exact go hB hg hs2
        · have hs2 : cond (decide (d = 1)) (tRv ob (intsV zs) eb eb' xb b xs at_ t h) none = some (true, v, h') := hs2
          rw [decide_eq_false h1] at hs2
          cases hs2
    · cases hs2
  · cases hs2
theorem SRw_ok {zs : List Int} {oa ob : Bool} {ea ea' eb eb' : Int} {xa xb : Value} (hA : oa = true → p3 xa = true ∧ RvF (intsV zs) 2 ea ea' xa) (hB : ob = true → p3 xb = true ∧ RvF (intsV zs) 1 eb eb' xb) : SpOK (spOr (spRw (intsV zs) oa ea ea' xa ob eb eb' xb) (spNext [])) := (spRw_ok hA hB).or (spNext_ok [])
theorem spNr_ok {ok : Bool} {zs : List Int} {e e1 : Int} {x y : Value} (hF : ok = true → p2 x = true ∧ p3 y = true ∧ NrF (intsV zs) e e1 x y) : SpOK (spNr ok (intsV zs) e e1 x y) := by
  intro f args h v h' hs
  unfold spNr at hs
  obtain ⟨hf, hs2⟩ := cond_some hs
  clear hs
  have := Nat.eq_of_beq_eq_true hf
  subst this
  split at hs2
  · rename_i b a
    split at hs2
    · rename_i xs at_ t hg
      injection hs2 with hs
      injection hs with hb hs
      injection hs with hv hh
      subst hv hh
      simp only [Bool.and_eq_true, decide_eq_true_eq] at hb
      obtain ⟨⟨⟨⟨⟨b0, b1⟩, b2⟩, b3⟩, b4⟩, b5⟩ := hb
      have b1 := Nat.eq_of_beq_eq_true b1
      have b2 := eqV_eq b2
      have b4 := eqV_eq b4
      unfold fz at b2
      injection b2 with _ b2 _
      subst b1 b2 b3 b4
      obtain ⟨q0, q1, q2⟩ := hF b0
      exact ⟨FnOK.ref (cs := ⟨[fz (intsV zs), .int .i64 at_]⟩) (cs' := ⟨[fz (intsV zs), .int .i64 e1]⟩) (args := [a]) q2 (by show (p2 a && true) = true; rw [q0]; rfl) (by simp [p1, fz]) (by simp [p1, fz]) q1 hg, Nat.le_refl _⟩
    · cases hs2
  · cases hs2
theorem SNr_ok {ok : Bool} {zs : List Int} {e e1 : Int} {x y : Value} (hF : ok = true → p2 x = true ∧ p3 y = true ∧ NrF (intsV zs) e e1 x y) : SpOK (spOr (spNr ok (intsV zs) e e1 x y) (spNext [])) := (spNr_ok hF).or (spNext_ok [])
theorem rwC_mk {X : Array Value} {a e : Int} (h : a = e) : rwC true X a e = true := by
  unfold rwC
  rw [eqV_self]
  simp [h]
theorem nrC_mk {X : Array Value} {a e : Int} {u x : Value} (h : a = e) (hu : u = x) : nrC true X a e u x = true := by
  unfold nrC
  rw [eqV_self, hu, eqV_self]
  simp [h]
theorem someNR : Tryz.f5.body.isSome = true := by kernel_rfl
theorem oneNR6 : (loopAt (codeOf Tryz.f5) 6).length = 1 := by kernel_rfl
theorem oneNR19 : (loopAt (codeOf Tryz.f5) 19).length = 1 := by kernel_rfl
theorem gh15 (X : Array Value) : LoopsOK 1 Tryz.prog 113 (ghost1 15 (freezeH 3 4 true 6)) (codeOf Tryz.f5) := ghosts_one (by kernel_rfl) (freezeH_ok _ _ _ _ _ _ _)
/-! a list's rounds -/
theorem nrd1_0 {zs : List Int} {m : Nat} (IH : NearEx zs m) {e : Int} (h0 : 0 ≤ e) (h1 : e + 1 + (mN m : Int) ≤ 900000) (xs : List Value) {v : ValLaw.T m} (hv : ValLaw.GR m v) (u0 : ValLaw.T (m + 2)) (hu : enc (m + 2) u0 = enc m v) (hg : ValLaw.GV (m + 2) u0) :
    ∃ (w : ValLaw.T (m + 2)) (e1 : Int), ValLaw.GV (m + 2) w ∧ e ≤ e1 ∧ e1 ≤ e + 1 + (mN m : Int) ∧ ∀ N K, iterE 1 Tryz.prog 113 [0, 3, 4, 5, 23, 24] [] [0, 3, 4, 5] [] (oneLoop (codeOf Tryz.f5) 6) N (vNL 1 1) (nL (intsV zs) e1 xs (cE (m + 2) w)) K → iterE 1 Tryz.prog 113 [0, 3, 4, 5, 23, 24] [] [0, 3, 4, 5] [] (oneLoop (codeOf Tryz.f5) 6) (N + 1) (vNL 1 0) (nL (intsV zs) e xs (cE (m + 2) u0)) K := by
  obtain ⟨k0, f0, n0, s0, l0, m0, x0⟩ := enc_vV (m + 2) u0
  have c0 : cE (m + 2) u0 = c6 k0 f0 n0 s0 l0 m0 := by unfold cE; rw [x0]; rfl
  by_cases hr : nextR (intsV zs) e 2 = 0
  · obtain ⟨w, e1, a1, a2, a3, a4⟩ := IH v hv (e + 1) (by omega) (by omega)
    obtain ⟨ky, fy, ny, sy, ly, my, xw⟩ := enc_vV (m + 2) w
    have cw : cE (m + 2) w = c6 ky fy ny sy ly my := by unfold cE; rw [xw]; rfl
    refine ⟨w, e1, a1, by omega, by omega, fun N K hI => ?_⟩
    rw [xw] at a4
    rw [cw] at hI
    rw [c0]
    exact ⟨SNr true (intsV zs) (e + 1) e1 (enc m v) (vV ky fy ny sy ly my), [], noHooks, 900, (SNr_ok (fun _ => ⟨enc_p2 m v, rfl, a4⟩)).cfg, loops_none _ _ _ _, (nrL1_0 true (intsV zs) e (e + 1) e1 (enc m v) xs ky fy ny sy ly my k0 f0 n0 s0 l0 m0 _ K).mpr (drT_mk h0 (by omega) (pick_t (by rw [hr]; rfl) (need_mk (nrC_mk rfl (by rw [← x0, hu])) hI)))⟩
  · refine ⟨u0, e + 1, hg, by omega, by omega, fun N K hI => ?_⟩
    rw [c0] at hI ⊢
    exact ⟨SNr false (intsV zs) 0 0 (enc m v) (vV 0 false 0 ⟨#[]⟩ [] []), [], noHooks, 900, (SNr_ok (ok := false) (fun h => Bool.noConfusion h)).cfg, loops_none _ _ _ _, (nrL1_0 false (intsV zs) e 0 0 (enc m v) xs 0 false 0 ⟨#[]⟩ [] [] k0 f0 n0 s0 l0 m0 _ K).mpr (drT_mk h0 (by omega) (pick_f (beq_eq_false_iff_ne.2 hr) hI))⟩
theorem nrd2_0 {zs : List Int} {m : Nat} (IH : NearEx zs m) {e : Int} (h0 : 0 ≤ e) (h1 : e + 1 + (mN m : Int) ≤ 900000) (xs : List Value) {v : ValLaw.T m} (hv : ValLaw.GR m v) (u0 u1 : ValLaw.T (m + 2)) (hu : enc (m + 2) u0 = enc m v) (hg : ValLaw.GV (m + 2) u0) :
    ∃ (w : ValLaw.T (m + 2)) (e1 : Int), ValLaw.GV (m + 2) w ∧ e ≤ e1 ∧ e1 ≤ e + 1 + (mN m : Int) ∧ ∀ N K, iterE 1 Tryz.prog 113 [0, 3, 4, 5, 23, 24] [] [0, 3, 4, 5] [] (oneLoop (codeOf Tryz.f5) 6) N (vNL 2 1) (nL (intsV zs) e1 xs (cE (m + 2) w ++ cE (m + 2) u1)) K → iterE 1 Tryz.prog 113 [0, 3, 4, 5, 23, 24] [] [0, 3, 4, 5] [] (oneLoop (codeOf Tryz.f5) 6) (N + 1) (vNL 2 0) (nL (intsV zs) e xs (cE (m + 2) u0 ++ cE (m + 2) u1)) K := by
  obtain ⟨k0, f0, n0, s0, l0, m0, x0⟩ := enc_vV (m + 2) u0
  have c0 : cE (m + 2) u0 = c6 k0 f0 n0 s0 l0 m0 := by unfold cE; rw [x0]; rfl
  obtain ⟨k1, f1, n1, s1, l1, m1, x1⟩ := enc_vV (m + 2) u1
  have c1 : cE (m + 2) u1 = c6 k1 f1 n1 s1 l1 m1 := by unfold cE; rw [x1]; rfl
  by_cases hr : nextR (intsV zs) e 2 = 0
  · obtain ⟨w, e1, a1, a2, a3, a4⟩ := IH v hv (e + 1) (by omega) (by omega)
    obtain ⟨ky, fy, ny, sy, ly, my, xw⟩ := enc_vV (m + 2) w
    have cw : cE (m + 2) w = c6 ky fy ny sy ly my := by unfold cE; rw [xw]; rfl
    refine ⟨w, e1, a1, by omega, by omega, fun N K hI => ?_⟩
    rw [xw] at a4
    rw [cw, c1] at hI
    rw [c0, c1]
    exact ⟨SNr true (intsV zs) (e + 1) e1 (enc m v) (vV ky fy ny sy ly my), [], noHooks, 900, (SNr_ok (fun _ => ⟨enc_p2 m v, rfl, a4⟩)).cfg, loops_none _ _ _ _, (nrL2_0 true (intsV zs) e (e + 1) e1 (enc m v) xs ky fy ny sy ly my k0 f0 n0 s0 l0 m0 k1 f1 n1 s1 l1 m1 _ K).mpr (drT_mk h0 (by omega) (pick_t (by rw [hr]; rfl) (need_mk (nrC_mk rfl (by rw [← x0, hu])) hI)))⟩
  · refine ⟨u0, e + 1, hg, by omega, by omega, fun N K hI => ?_⟩
    rw [c0, c1] at hI ⊢
    exact ⟨SNr false (intsV zs) 0 0 (enc m v) (vV 0 false 0 ⟨#[]⟩ [] []), [], noHooks, 900, (SNr_ok (ok := false) (fun h => Bool.noConfusion h)).cfg, loops_none _ _ _ _, (nrL2_0 false (intsV zs) e 0 0 (enc m v) xs 0 false 0 ⟨#[]⟩ [] [] k0 f0 n0 s0 l0 m0 k1 f1 n1 s1 l1 m1 _ K).mpr (drT_mk h0 (by omega) (pick_f (beq_eq_false_iff_ne.2 hr) hI))⟩
theorem nrd2_1 {zs : List Int} {m : Nat} (IH : NearEx zs m) {e : Int} (h0 : 0 ≤ e) (h1 : e + 1 + (mN m : Int) ≤ 900000) (xs : List Value) {v : ValLaw.T m} (hv : ValLaw.GR m v) (u0 u1 : ValLaw.T (m + 2)) (hu : enc (m + 2) u1 = enc m v) (hg : ValLaw.GV (m + 2) u1) :
    ∃ (w : ValLaw.T (m + 2)) (e1 : Int), ValLaw.GV (m + 2) w ∧ e ≤ e1 ∧ e1 ≤ e + 1 + (mN m : Int) ∧ ∀ N K, iterE 1 Tryz.prog 113 [0, 3, 4, 5, 23, 24] [] [0, 3, 4, 5] [] (oneLoop (codeOf Tryz.f5) 6) N (vNL 2 2) (nL (intsV zs) e1 xs (cE (m + 2) u0 ++ cE (m + 2) w)) K → iterE 1 Tryz.prog 113 [0, 3, 4, 5, 23, 24] [] [0, 3, 4, 5] [] (oneLoop (codeOf Tryz.f5) 6) (N + 1) (vNL 2 1) (nL (intsV zs) e xs (cE (m + 2) u0 ++ cE (m + 2) u1)) K := by
  obtain ⟨k0, f0, n0, s0, l0, m0, x0⟩ := enc_vV (m + 2) u0
  have c0 : cE (m + 2) u0 = c6 k0 f0 n0 s0 l0 m0 := by unfold cE; rw [x0]; rfl
  obtain ⟨k1, f1, n1, s1, l1, m1, x1⟩ := enc_vV (m + 2) u1
  have c1 : cE (m + 2) u1 = c6 k1 f1 n1 s1 l1 m1 := by unfold cE; rw [x1]; rfl
  by_cases hr : nextR (intsV zs) e 2 = 0
  · obtain ⟨w, e1, a1, a2, a3, a4⟩ := IH v hv (e + 1) (by omega) (by omega)
    obtain ⟨ky, fy, ny, sy, ly, my, xw⟩ := enc_vV (m + 2) w
    have cw : cE (m + 2) w = c6 ky fy ny sy ly my := by unfold cE; rw [xw]; rfl
    refine ⟨w, e1, a1, by omega, by omega, fun N K hI => ?_⟩
    rw [xw] at a4
    rw [c0, cw] at hI
    rw [c0, c1]
    exact ⟨SNr true (intsV zs) (e + 1) e1 (enc m v) (vV ky fy ny sy ly my), [], noHooks, 900, (SNr_ok (fun _ => ⟨enc_p2 m v, rfl, a4⟩)).cfg, loops_none _ _ _ _, (nrL2_1 true (intsV zs) e (e + 1) e1 (enc m v) xs ky fy ny sy ly my k0 f0 n0 s0 l0 m0 k1 f1 n1 s1 l1 m1 _ K).mpr (drT_mk h0 (by omega) (pick_t (by rw [hr]; rfl) (need_mk (nrC_mk rfl (by rw [← x1, hu])) hI)))⟩
  · refine ⟨u1, e + 1, hg, by omega, by omega, fun N K hI => ?_⟩
    rw [c0, c1] at hI ⊢
    exact ⟨SNr false (intsV zs) 0 0 (enc m v) (vV 0 false 0 ⟨#[]⟩ [] []), [], noHooks, 900, (SNr_ok (ok := false) (fun h => Bool.noConfusion h)).cfg, loops_none _ _ _ _, (nrL2_1 false (intsV zs) e 0 0 (enc m v) xs 0 false 0 ⟨#[]⟩ [] [] k0 f0 n0 s0 l0 m0 k1 f1 n1 s1 l1 m1 _ K).mpr (drT_mk h0 (by omega) (pick_f (beq_eq_false_iff_ne.2 hr) hI))⟩
theorem nrd3_0 {zs : List Int} {m : Nat} (IH : NearEx zs m) {e : Int} (h0 : 0 ≤ e) (h1 : e + 1 + (mN m : Int) ≤ 900000) (xs : List Value) {v : ValLaw.T m} (hv : ValLaw.GR m v) (u0 u1 u2 : ValLaw.T (m + 2)) (hu : enc (m + 2) u0 = enc m v) (hg : ValLaw.GV (m + 2) u0) :
    ∃ (w : ValLaw.T (m + 2)) (e1 : Int), ValLaw.GV (m + 2) w ∧ e ≤ e1 ∧ e1 ≤ e + 1 + (mN m : Int) ∧ ∀ N K, iterE 1 Tryz.prog 113 [0, 3, 4, 5, 23, 24] [] [0, 3, 4, 5] [] (oneLoop (codeOf Tryz.f5) 6) N (vNL 3 1) (nL (intsV zs) e1 xs (cE (m + 2) w ++ cE (m + 2) u1 ++ cE (m + 2) u2)) K → iterE 1 Tryz.prog 113 [0, 3, 4, 5, 23, 24] [] [0, 3, 4, 5] [] (oneLoop (codeOf Tryz.f5) 6) (N + 1) (vNL 3 0) (nL (intsV zs) e xs (cE (m + 2) u0 ++ cE (m + 2) u1 ++ cE (m + 2) u2)) K := by
  obtain ⟨k0, f0, n0, s0, l0, m0, x0⟩ := enc_vV (m + 2) u0
  have c0 : cE (m + 2) u0 = c6 k0 f0 n0 s0 l0 m0 := by unfold cE; rw [x0]; rfl
  obtain ⟨k1, f1, n1, s1, l1, m1, x1⟩ := enc_vV (m + 2) u1
  have c1 : cE (m + 2) u1 = c6 k1 f1 n1 s1 l1 m1 := by unfold cE; rw [x1]; rfl
  obtain ⟨k2, f2, n2, s2, l2, m2, x2⟩ := enc_vV (m + 2) u2
  have c2 : cE (m + 2) u2 = c6 k2 f2 n2 s2 l2 m2 := by unfold cE; rw [x2]; rfl
  by_cases hr : nextR (intsV zs) e 2 = 0
  · obtain ⟨w, e1, a1, a2, a3, a4⟩ := IH v hv (e + 1) (by omega) (by omega)
    obtain ⟨ky, fy, ny, sy, ly, my, xw⟩ := enc_vV (m + 2) w
    have cw : cE (m + 2) w = c6 ky fy ny sy ly my := by unfold cE; rw [xw]; rfl
    refine ⟨w, e1, a1, by omega, by omega, fun N K hI => ?_⟩
    rw [xw] at a4
    rw [cw, c1, c2] at hI
    rw [c0, c1, c2]
    exact ⟨SNr true (intsV zs) (e + 1) e1 (enc m v) (vV ky fy ny sy ly my), [], noHooks, 900, (SNr_ok (fun _ => ⟨enc_p2 m v, rfl, a4⟩)).cfg, loops_none _ _ _ _, (nrL3_0 true (intsV zs) e (e + 1) e1 (enc m v) xs ky fy ny sy ly my k0 f0 n0 s0 l0 m0 k1 f1 n1 s1 l1 m1 k2 f2 n2 s2 l2 m2 _ K).mpr (drT_mk h0 (by omega) (pick_t (by rw [hr]; rfl) (need_mk (nrC_mk rfl (by rw [← x0, hu])) hI)))⟩
  · refine ⟨u0, e + 1, hg, by omega, by omega, fun N K hI => ?_⟩
    rw [c0, c1, c2] at hI ⊢
    exact ⟨SNr false (intsV zs) 0 0 (enc m v) (vV 0 false 0 ⟨#[]⟩ [] []), [], noHooks, 900, (SNr_ok (ok := false) (fun h => Bool.noConfusion h)).cfg, loops_none _ _ _ _, (nrL3_0 false (intsV zs) e 0 0 (enc m v) xs 0 false 0 ⟨#[]⟩ [] [] k0 f0 n0 s0 l0 m0 k1 f1 n1 s1 l1 m1 k2 f2 n2 s2 l2 m2 _ K).mpr (drT_mk h0 (by omega) (pick_f (beq_eq_false_iff_ne.2 hr) hI))⟩
theorem nrd3_1 {zs : List Int} {m : Nat} (IH : NearEx zs m) {e : Int} (h0 : 0 ≤ e) (h1 : e + 1 + (mN m : Int) ≤ 900000) (xs : List Value) {v : ValLaw.T m} (hv : ValLaw.GR m v) (u0 u1 u2 : ValLaw.T (m + 2)) (hu : enc (m + 2) u1 = enc m v) (hg : ValLaw.GV (m + 2) u1) :
    ∃ (w : ValLaw.T (m + 2)) (e1 : Int), ValLaw.GV (m + 2) w ∧ e ≤ e1 ∧ e1 ≤ e + 1 + (mN m : Int) ∧ ∀ N K, iterE 1 Tryz.prog 113 [0, 3, 4, 5, 23, 24] [] [0, 3, 4, 5] [] (oneLoop (codeOf Tryz.f5) 6) N (vNL 3 2) (nL (intsV zs) e1 xs (cE (m + 2) u0 ++ cE (m + 2) w ++ cE (m + 2) u2)) K → iterE 1 Tryz.prog 113 [0, 3, 4, 5, 23, 24] [] [0, 3, 4, 5] [] (oneLoop (codeOf Tryz.f5) 6) (N + 1) (vNL 3 1) (nL (intsV zs) e xs (cE (m + 2) u0 ++ cE (m + 2) u1 ++ cE (m + 2) u2)) K := by
  obtain ⟨k0, f0, n0, s0, l0, m0, x0⟩ := enc_vV (m + 2) u0
  have c0 : cE (m + 2) u0 = c6 k0 f0 n0 s0 l0 m0 := by unfold cE; rw [x0]; rfl
  obtain ⟨k1, f1, n1, s1, l1, m1, x1⟩ := enc_vV (m + 2) u1
  have c1 : cE (m + 2) u1 = c6 k1 f1 n1 s1 l1 m1 := by unfold cE; rw [x1]; rfl
  obtain ⟨k2, f2, n2, s2, l2, m2, x2⟩ := enc_vV (m + 2) u2
  have c2 : cE (m + 2) u2 = c6 k2 f2 n2 s2 l2 m2 := by unfold cE; rw [x2]; rfl
  by_cases hr : nextR (intsV zs) e 2 = 0
  · obtain ⟨w, e1, a1, a2, a3, a4⟩ := IH v hv (e + 1) (by omega) (by omega)
    obtain ⟨ky, fy, ny, sy, ly, my, xw⟩ := enc_vV (m + 2) w
    have cw : cE (m + 2) w = c6 ky fy ny sy ly my := by unfold cE; rw [xw]; rfl
    refine ⟨w, e1, a1, by omega, by omega, fun N K hI => ?_⟩
    rw [xw] at a4
    rw [c0, cw, c2] at hI
    rw [c0, c1, c2]
    exact ⟨SNr true (intsV zs) (e + 1) e1 (enc m v) (vV ky fy ny sy ly my), [], noHooks, 900, (SNr_ok (fun _ => ⟨enc_p2 m v, rfl, a4⟩)).cfg, loops_none _ _ _ _, (nrL3_1 true (intsV zs) e (e + 1) e1 (enc m v) xs ky fy ny sy ly my k0 f0 n0 s0 l0 m0 k1 f1 n1 s1 l1 m1 k2 f2 n2 s2 l2 m2 _ K).mpr (drT_mk h0 (by omega) (pick_t (by rw [hr]; rfl) (need_mk (nrC_mk rfl (by rw [← x1, hu])) hI)))⟩
  · refine ⟨u1, e + 1, hg, by omega, by omega, fun N K hI => ?_⟩
    rw [c0, c1, c2] at hI ⊢
    exact ⟨SNr false (intsV zs) 0 0 (enc m v) (vV 0 false 0 ⟨#[]⟩ [] []), [], noHooks, 900, (SNr_ok (ok := false) (fun h => Bool.noConfusion h)).cfg, loops_none _ _ _ _, (nrL3_1 false (intsV zs) e 0 0 (enc m v) xs 0 false 0 ⟨#[]⟩ [] [] k0 f0 n0 s0 l0 m0 k1 f1 n1 s1 l1 m1 k2 f2 n2 s2 l2 m2 _ K).mpr (drT_mk h0 (by omega) (pick_f (beq_eq_false_iff_ne.2 hr) hI))⟩
theorem nrd3_2 {zs : List Int} {m : Nat} (IH : NearEx zs m) {e : Int} (h0 : 0 ≤ e) (h1 : e + 1 + (mN m : Int) ≤ 900000) (xs : List Value) {v : ValLaw.T m} (hv : ValLaw.GR m v) (u0 u1 u2 : ValLaw.T (m + 2)) (hu : enc (m + 2) u2 = enc m v) (hg : ValLaw.GV (m + 2) u2) :
    ∃ (w : ValLaw.T (m + 2)) (e1 : Int), ValLaw.GV (m + 2) w ∧ e ≤ e1 ∧ e1 ≤ e + 1 + (mN m : Int) ∧ ∀ N K, iterE 1 Tryz.prog 113 [0, 3, 4, 5, 23, 24] [] [0, 3, 4, 5] [] (oneLoop (codeOf Tryz.f5) 6) N (vNL 3 3) (nL (intsV zs) e1 xs (cE (m + 2) u0 ++ cE (m + 2) u1 ++ cE (m + 2) w)) K → iterE 1 Tryz.prog 113 [0, 3, 4, 5, 23, 24] [] [0, 3, 4, 5] [] (oneLoop (codeOf Tryz.f5) 6) (N + 1) (vNL 3 2) (nL (intsV zs) e xs (cE (m + 2) u0 ++ cE (m + 2) u1 ++ cE (m + 2) u2)) K := by
  obtain ⟨k0, f0, n0, s0, l0, m0, x0⟩ := enc_vV (m + 2) u0
  have c0 : cE (m + 2) u0 = c6 k0 f0 n0 s0 l0 m0 := by unfold cE; rw [x0]; rfl
  obtain ⟨k1, f1, n1, s1, l1, m1, x1⟩ := enc_vV (m + 2) u1
  have c1 : cE (m + 2) u1 = c6 k1 f1 n1 s1 l1 m1 := by unfold cE; rw [x1]; rfl
  obtain ⟨k2, f2, n2, s2, l2, m2, x2⟩ := enc_vV (m + 2) u2
  have c2 : cE (m + 2) u2 = c6 k2 f2 n2 s2 l2 m2 := by unfold cE; rw [x2]; rfl
  by_cases hr : nextR (intsV zs) e 2 = 0
  · obtain ⟨w, e1, a1, a2, a3, a4⟩ := IH v hv (e + 1) (by omega) (by omega)
    obtain ⟨ky, fy, ny, sy, ly, my, xw⟩ := enc_vV (m + 2) w
    have cw : cE (m + 2) w = c6 ky fy ny sy ly my := by unfold cE; rw [xw]; rfl
    refine ⟨w, e1, a1, by omega, by omega, fun N K hI => ?_⟩
    rw [xw] at a4
    rw [c0, c1, cw] at hI
    rw [c0, c1, c2]
    exact ⟨SNr true (intsV zs) (e + 1) e1 (enc m v) (vV ky fy ny sy ly my), [], noHooks, 900, (SNr_ok (fun _ => ⟨enc_p2 m v, rfl, a4⟩)).cfg, loops_none _ _ _ _, (nrL3_2 true (intsV zs) e (e + 1) e1 (enc m v) xs ky fy ny sy ly my k0 f0 n0 s0 l0 m0 k1 f1 n1 s1 l1 m1 k2 f2 n2 s2 l2 m2 _ K).mpr (drT_mk h0 (by omega) (pick_t (by rw [hr]; rfl) (need_mk (nrC_mk rfl (by rw [← x2, hu])) hI)))⟩
  · refine ⟨u2, e + 1, hg, by omega, by omega, fun N K hI => ?_⟩
    rw [c0, c1, c2] at hI ⊢
    exact ⟨SNr false (intsV zs) 0 0 (enc m v) (vV 0 false 0 ⟨#[]⟩ [] []), [], noHooks, 900, (SNr_ok (ok := false) (fun h => Bool.noConfusion h)).cfg, loops_none _ _ _ _, (nrL3_2 false (intsV zs) e 0 0 (enc m v) xs 0 false 0 ⟨#[]⟩ [] [] k0 f0 n0 s0 l0 m0 k1 f1 n1 s1 l1 m1 k2 f2 n2 s2 l2 m2 _ K).mpr (drT_mk h0 (by omega) (pick_f (beq_eq_false_iff_ne.2 hr) hI))⟩
theorem nlp1 {zs : List Int} {m : Nat} (IH : NearEx zs m) {e : Int} (h0 : 0 ≤ e) (h1 : e + 1 * (1 + (mN m : Int)) ≤ 900000) (xs : List Value) {v0 : ValLaw.T m} (h0v : ValLaw.GR m v0) :
    ∃ (w0 : ValLaw.T (m + 2)) (e1 : Int), ValLaw.GV (m + 2) w0 ∧  e ≤ e1 ∧ e1 ≤ e + 1 * (1 + (mN m : Int)) ∧ ∀ K, K (.exit 1) [p0V, p1V, p2V, .slice (some ⟨3, 0, none⟩) 1 1] (nL (intsV zs) e1 xs (cE (m + 2) w0)) → iterE 1 Tryz.prog 113 [0, 3, 4, 5, 23, 24] [] [0, 3, 4, 5] [] (oneLoop (codeOf Tryz.f5) 6) (1 + 1) (vNL 1 0) (nL (intsV zs) e xs (cE (m + 2) (up2 m v0))) K := by
  obtain ⟨w0, d0, a0, b0, c0, g0⟩ := nrd1_0 IH (e := e) (by omega) (by omega) xs h0v (up2 m v0) (up2_enc m v0) (up2_gv (ValLaw.gr_gv h0v))
  refine ⟨w0, d0, a0, by omega, by omega, fun K hK => g0 1 K ?_⟩
  obtain ⟨k0, f0, n0, s0, l0, m0, x0⟩ := enc_vV (m + 2) w0
  have y0 : cE (m + 2) w0 = c6 k0 f0 n0 s0 l0 m0 := by unfold cE; rw [x0]; rfl
  rw [y0] at hK ⊢
  exact ⟨SNr false (intsV zs) 0 0 undef (vV 0 false 0 ⟨#[]⟩ [] []), [], noHooks, 900, (SNr_ok (ok := false) (fun h => Bool.noConfusion h)).cfg, loops_none _ _ _ _, (nrL1_1 false (intsV zs) d0 0 0 undef xs 0 false 0 ⟨#[]⟩ [] [] k0 f0 n0 s0 l0 m0 _ K).mpr hK⟩
theorem nlp2 {zs : List Int} {m : Nat} (IH : NearEx zs m) {e : Int} (h0 : 0 ≤ e) (h1 : e + 2 * (1 + (mN m : Int)) ≤ 900000) (xs : List Value) {v0 v1 : ValLaw.T m} (h0v : ValLaw.GR m v0) (h1v : ValLaw.GR m v1) :
    ∃ (w0 w1 : ValLaw.T (m + 2)) (e1 : Int), ValLaw.GV (m + 2) w0 ∧ ValLaw.GV (m + 2) w1 ∧  e ≤ e1 ∧ e1 ≤ e + 2 * (1 + (mN m : Int)) ∧ ∀ K, K (.exit 1) [p0V, p1V, p2V, .slice (some ⟨3, 0, none⟩) 2 2] (nL (intsV zs) e1 xs (cE (m + 2) w0 ++ cE (m + 2) w1)) → iterE 1 Tryz.prog 113 [0, 3, 4, 5, 23, 24] [] [0, 3, 4, 5] [] (oneLoop (codeOf Tryz.f5) 6) (1 + 1 + 1) (vNL 2 0) (nL (intsV zs) e xs (cE (m + 2) (up2 m v0) ++ cE (m + 2) (up2 m v1))) K := by
  obtain ⟨w0, d0, a0, b0, c0, g0⟩ := nrd2_0 IH (e := e) (by omega) (by omega) xs h0v (up2 m v0) (up2 m v1) (up2_enc m v0) (up2_gv (ValLaw.gr_gv h0v))
  obtain ⟨w1, d1, a1, b1, c1, g1⟩ := nrd2_1 IH (e := d0) (by omega) (by omega) xs h1v w0 (up2 m v1) (up2_enc m v1) (up2_gv (ValLaw.gr_gv h1v))
  refine ⟨w0, w1, d1, a0, a1, by omega, by omega, fun K hK => g0 _ K ( g1 1 K ?_)⟩
  obtain ⟨k0, f0, n0, s0, l0, m0, x0⟩ := enc_vV (m + 2) w0
  have y0 : cE (m + 2) w0 = c6 k0 f0 n0 s0 l0 m0 := by unfold cE; rw [x0]; rfl
  obtain ⟨k1, f1, n1, s1, l1, m1, x1⟩ := enc_vV (m + 2) w1
  have y1 : cE (m + 2) w1 = c6 k1 f1 n1 s1 l1 m1 := by unfold cE; rw [x1]; rfl
  rw [y0, y1] at hK ⊢
  exact ⟨SNr false (intsV zs) 0 0 undef (vV 0 false 0 ⟨#[]⟩ [] []), [], noHooks, 900, (SNr_ok (ok := false) (fun h => Bool.noConfusion h)).cfg, loops_none _ _ _ _, (nrL2_2 false (intsV zs) d1 0 0 undef xs 0 false 0 ⟨#[]⟩ [] [] k0 f0 n0 s0 l0 m0 k1 f1 n1 s1 l1 m1 _ K).mpr hK⟩
theorem nlp3 {zs : List Int} {m : Nat} (IH : NearEx zs m) {e : Int} (h0 : 0 ≤ e) (h1 : e + 3 * (1 + (mN m : Int)) ≤ 900000) (xs : List Value) {v0 v1 v2 : ValLaw.T m} (h0v : ValLaw.GR m v0) (h1v : ValLaw.GR m v1) (h2v : ValLaw.GR m v2) :
    ∃ (w0 w1 w2 : ValLaw.T (m + 2)) (e1 : Int), ValLaw.GV (m + 2) w0 ∧ ValLaw.GV (m + 2) w1 ∧ ValLaw.GV (m + 2) w2 ∧  e ≤ e1 ∧ e1 ≤ e + 3 * (1 + (mN m : Int)) ∧ ∀ K, K (.exit 1) [p0V, p1V, p2V, .slice (some ⟨3, 0, none⟩) 3 3] (nL (intsV zs) e1 xs (cE (m + 2) w0 ++ cE (m + 2) w1 ++ cE (m + 2) w2)) → iterE 1 Tryz.prog 113 [0, 3, 4, 5, 23, 24] [] [0, 3, 4, 5] [] (oneLoop (codeOf Tryz.f5) 6) (1 + 1 + 1 + 1) (vNL 3 0) (nL (intsV zs) e xs (cE (m + 2) (up2 m v0) ++ cE (m + 2) (up2 m v1) ++ cE (m + 2) (up2 m v2))) K := by
  obtain ⟨w0, d0, a0, b0, c0, g0⟩ := nrd3_0 IH (e := e) (by omega) (by omega) xs h0v (up2 m v0) (up2 m v1) (up2 m v2) (up2_enc m v0) (up2_gv (ValLaw.gr_gv h0v))
  obtain ⟨w1, d1, a1, b1, c1, g1⟩ := nrd3_1 IH (e := d0) (by omega) (by omega) xs h1v w0 (up2 m v1) (up2 m v2) (up2_enc m v1) (up2_gv (ValLaw.gr_gv h1v))
  obtain ⟨w2, d2, a2, b2, c2, g2⟩ := nrd3_2 IH (e := d1) (by omega) (by omega) xs h2v w0 w1 (up2 m v2) (up2_enc m v2) (up2_gv (ValLaw.gr_gv h2v))
  refine ⟨w0, w1, w2, d2, a0, a1, a2, by omega, by omega, fun K hK => g0 _ K ( g1 _ K ( g2 1 K ?_))⟩
  obtain ⟨k0, f0, n0, s0, l0, m0, x0⟩ := enc_vV (m + 2) w0
  have y0 : cE (m + 2) w0 = c6 k0 f0 n0 s0 l0 m0 := by unfold cE; rw [x0]; rfl
  obtain ⟨k1, f1, n1, s1, l1, m1, x1⟩ := enc_vV (m + 2) w1
  have y1 : cE (m + 2) w1 = c6 k1 f1 n1 s1 l1 m1 := by unfold cE; rw [x1]; rfl
  obtain ⟨k2, f2, n2, s2, l2, m2, x2⟩ := enc_vV (m + 2) w2
  have y2 : cE (m + 2) w2 = c6 k2 f2 n2 s2 l2 m2 := by unfold cE; rw [x2]; rfl
  rw [y0, y1, y2] at hK ⊢
  exact ⟨SNr false (intsV zs) 0 0 undef (vV 0 false 0 ⟨#[]⟩ [] []), [], noHooks, 900, (SNr_ok (ok := false) (fun h => Bool.noConfusion h)).cfg, loops_none _ _ _ _, (nrL3_3 false (intsV zs) d2 0 0 undef xs 0 false 0 ⟨#[]⟩ [] [] k0 f0 n0 s0 l0 m0 k1 f1 n1 s1 l1 m1 k2 f2 n2 s2 l2 m2 _ K).mpr hK⟩
theorem nls1 {zs : List Int} {m : Nat} (IH : NearEx zs m) (H2 : RvEx zs 2) (H1 : RvEx zs 1) {v0 : ValLaw.T m} (h0v : ValLaw.GR m v0) {e : Int} (h0 : 0 ≤ e) (h1 : e + 1 + 1 * (1 + (mN m : Int)) + 1000 ≤ 900000) :
    ∃ (y : Value) (e' : Int), ((∃ x : ValLaw.T 2, ValLaw.GR 2 x ∧ y = enc 2 x) ∨ ∃ L : List (ValLaw.T (m + 2)), L.length ≤ 4 ∧ (∀ x ∈ L, ValLaw.GV (m + 2) x) ∧ y = vV 4 false 0 ⟨#[]⟩ (L.map (enc (m + 2))) []) ∧ e ≤ e' ∧ e' ≤ e + 1 + 1 * (1 + (mN m : Int)) + 1000 ∧ NrF (intsV zs) e e' (vV 4 false 0 ⟨#[]⟩ [enc m v0] []) y := by
  obtain ⟨w0, d, g0, d1, d2, hl⟩ := nlp1 (zs := zs) IH (e := e + 1) (by omega) (by omega) [enc m v0] h0v
  have hn : (0 : Int) ≤ (mN m : Int) := by omega
  obtain ⟨k0, f0, n0, s0, l0, m0, x0⟩ := enc_vV m v0
  have z0 : cE (m + 2) (up2 m v0) = c6 k0 f0 n0 s0 l0 m0 := by unfold cE; rw [up2_enc, x0]; rfl
  obtain ⟨k0', f0', n0', s0', l0', m0', x0'⟩ := enc_vV (m + 2) w0
  have z0' : cE (m + 2) w0 = c6 k0' f0' n0' s0' l0' m0' := by unfold cE; rw [x0']; rfl
  rw [z0'] at hl
  rw [z0] at hl
  rw [x0] at hl ⊢
  have hA : LSpec 1 Tryz.prog 113 (oneLoop (codeOf Tryz.f5) 6) (hookLS 1 113 [0, 3, 4, 5, 23, 24] [] [0, 3, 4, 5] (fun vals h K => (vals = vNL 1 0 ∧ h = nL (intsV zs) (e + 1) [vV k0 f0 n0 s0 l0 m0] (c6 k0 f0 n0 s0 l0 m0)) ∧ K (.exit 1) [p0V, p1V, p2V, .slice (some ⟨3, 0, none⟩) 1 1] (nL (intsV zs) d [vV k0 f0 n0 s0 l0 m0] (c6 k0' f0' n0' s0' l0' m0')))) := by
    refine hookE_ok (sameX := []) mixed (by decide) ?_
    rintro vals h K ⟨⟨rfl, rfl⟩, hK⟩
    exact ⟨_, hl K hK⟩
  have hG := loops_or (loops_one oneNR6 hA) (gh15 (intsV zs))
  by_cases hr : nextR (intsV zs) e 3 = 0
  · obtain ⟨x, e', b1, b2, b3, b4⟩ := H2 (e + 1) (by omega) (by have : mR 2 = 570 := rfl; omega)
    have e570 : mR 2 = 570 := rfl
    obtain ⟨ka, fa, na, sa, la, ma, hx⟩ := enc_vV 2 x
    rw [hx] at b4
    refine ⟨vV ka fa na sa la ma, e', .inl ⟨x, b1, hx.symm⟩, by omega, by omega, ?_⟩
    have e0 := nh4_1 (intsV zs) true false e d (e + 1) e' 0 0 ka fa na sa la ma 0 false 0 ⟨#[]⟩ [] [] k0 f0 n0 s0 l0 m0 k0' f0' n0' s0' l0' m0' (fun vals h => vals = vNL 1 0 ∧ h = nL (intsV zs) (e + 1) [vV k0 f0 n0 s0 l0 m0] (c6 k0 f0 n0 s0 l0 m0)) (fun v o => v = vV ka fa na sa la ma ∧ o = some (strm (intsV zs) e'))
    exact FnOK.ttree (SRw_ok (fun _ => ⟨rfl, b4⟩) (fun h => Bool.noConfusion h)).cfg mixed Tryz.func5 someNR hG e0 (drT_mk h0 (by omega) (pick_t (by rw [hr]; rfl) (need_mk (rwC_mk rfl) ⟨rfl, rfl⟩)))
  · by_cases hr2 : nextR (intsV zs) d 3 = 0
    · obtain ⟨x, e', b1, b2, b3, b4⟩ := H1 (d + 1) (by omega) (by have : mR 1 = 80 := rfl; omega)
      have e80 : mR 1 = 80 := rfl
      obtain ⟨x', q1, q2⟩ := t1_up (m + 1) b1
      obtain ⟨kb, fb, nb, sb, lb, mb, hx⟩ := enc_vV 1 x
      rw [hx] at b4 q2
      refine ⟨vV 4 false 0 ⟨#[]⟩ ([w0].map (enc (m + 2)) ++ [vV kb fb nb sb lb mb]) [], e', .inr ⟨[w0] ++ [x'], by simp, fun y hy => ?_, ?_⟩, by omega, by omega, ?_⟩
      · simp only [List.mem_append, List.mem_cons, List.not_mem_nil, or_false] at hy
        rcases hy with (rfl) | rfl
        · exact g0
        · exact q1
      · rw [List.map_append, ← q2]; rfl
      · rw [show (([w0] : List (ValLaw.T (m + 2))).map (enc (m + 2))) = [vV k0' f0' n0' s0' l0' m0'] from by rw [← x0']; rfl]
        have e0 := nh4_1 (intsV zs) false true e d 0 0 (d + 1) e' 0 false 0 ⟨#[]⟩ [] [] kb fb nb sb lb mb k0 f0 n0 s0 l0 m0 k0' f0' n0' s0' l0' m0' (fun vals h => vals = vNL 1 0 ∧ h = nL (intsV zs) (e + 1) [vV k0 f0 n0 s0 l0 m0] (c6 k0 f0 n0 s0 l0 m0)) (fun v o => v = vV 4 false 0 ⟨#[]⟩ ([vV k0' f0' n0' s0' l0' m0'] ++ [vV kb fb nb sb lb mb]) [] ∧ o = some (strm (intsV zs) e'))
        exact FnOK.ttree (SRw_ok (fun h => Bool.noConfusion h) (fun _ => ⟨rfl, b4⟩)).cfg mixed Tryz.func5 someNR hG e0 (drT_mk h0 (by omega) (pick_f (beq_eq_false_iff_ne.2 hr) ⟨⟨rfl, rfl⟩, drT_mk (by omega) (by omega) (pick_t (by rw [hr2]; rfl) (need_mk (rwC_mk rfl) ⟨rfl, rfl⟩))⟩))
    · by_cases hr3 : nextR (intsV zs) (d + 1) 3 = 0
      · refine ⟨vV 4 false 0 ⟨#[]⟩ (([] : List (ValLaw.T (m + 2))).map (enc (m + 2))) [], d + 1 + 1, .inr ⟨([] : List (ValLaw.T (m + 2))), by simp, fun y hy => ?_, rfl⟩, by omega, by omega, ?_⟩
        · simp only [List.mem_cons, List.not_mem_nil, or_false] at hy
        · rw [show (([] : List (ValLaw.T (m + 2))).map (enc (m + 2))) = [] from by rfl]
          have e0 := nh4_1 (intsV zs) false false e d 0 0 0 0 0 false 0 ⟨#[]⟩ [] [] 0 false 0 ⟨#[]⟩ [] [] k0 f0 n0 s0 l0 m0 k0' f0' n0' s0' l0' m0' (fun vals h => vals = vNL 1 0 ∧ h = nL (intsV zs) (e + 1) [vV k0 f0 n0 s0 l0 m0] (c6 k0 f0 n0 s0 l0 m0)) (fun v o => v = vV 4 false 0 ⟨#[]⟩ [] [] ∧ o = some (strm (intsV zs) (d + 1 + 1)))
          exact FnOK.ttree (SRw_ok (fun h => Bool.noConfusion h) (fun h => Bool.noConfusion h)).cfg mixed Tryz.func5 someNR hG e0 (drT_mk h0 (by omega) (pick_f (beq_eq_false_iff_ne.2 hr) ⟨⟨rfl, rfl⟩, drT_mk (by omega) (by omega) (pick_f (beq_eq_false_iff_ne.2 hr2) (drT_mk (by omega) (by omega) (pick_t (by rw [hr3]; rfl) ⟨rfl, rfl⟩)))⟩))
      · refine ⟨vV 4 false 0 ⟨#[]⟩ ([w0].map (enc (m + 2))) [], d + 1 + 1, .inr ⟨[w0], by simp, fun y hy => ?_, rfl⟩, by omega, by omega, ?_⟩
        · simp only [List.mem_cons, List.not_mem_nil, or_false] at hy
          rcases hy with rfl
          · exact g0
        · rw [show (([w0] : List (ValLaw.T (m + 2))).map (enc (m + 2))) = [vV k0' f0' n0' s0' l0' m0'] from by rw [← x0']; rfl]
          have e0 := nh4_1 (intsV zs) false false e d 0 0 0 0 0 false 0 ⟨#[]⟩ [] [] 0 false 0 ⟨#[]⟩ [] [] k0 f0 n0 s0 l0 m0 k0' f0' n0' s0' l0' m0' (fun vals h => vals = vNL 1 0 ∧ h = nL (intsV zs) (e + 1) [vV k0 f0 n0 s0 l0 m0] (c6 k0 f0 n0 s0 l0 m0)) (fun v o => v = vV 4 false 0 ⟨#[]⟩ [vV k0' f0' n0' s0' l0' m0'] [] ∧ o = some (strm (intsV zs) (d + 1 + 1)))
          exact FnOK.ttree (SRw_ok (fun h => Bool.noConfusion h) (fun h => Bool.noConfusion h)).cfg mixed Tryz.func5 someNR hG e0 (drT_mk h0 (by omega) (pick_f (beq_eq_false_iff_ne.2 hr) ⟨⟨rfl, rfl⟩, drT_mk (by omega) (by omega) (pick_f (beq_eq_false_iff_ne.2 hr2) (drT_mk (by omega) (by omega) (pick_f (beq_eq_false_iff_ne.2 hr3) ⟨rfl, rfl⟩)))⟩))
theorem nls2 {zs : List Int} {m : Nat} (IH : NearEx zs m) (H2 : RvEx zs 2) (H1 : RvEx zs 1) {v0 v1 : ValLaw.T m} (h0v : ValLaw.GR m v0) (h1v : ValLaw.GR m v1) {e : Int} (h0 : 0 ≤ e) (h1 : e + 1 + 2 * (1 + (mN m : Int)) + 1000 ≤ 900000) :
    ∃ (y : Value) (e' : Int), ((∃ x : ValLaw.T 2, ValLaw.GR 2 x ∧ y = enc 2 x) ∨ ∃ L : List (ValLaw.T (m + 2)), L.length ≤ 4 ∧ (∀ x ∈ L, ValLaw.GV (m + 2) x) ∧ y = vV 4 false 0 ⟨#[]⟩ (L.map (enc (m + 2))) []) ∧ e ≤ e' ∧ e' ≤ e + 1 + 2 * (1 + (mN m : Int)) + 1000 ∧ NrF (intsV zs) e e' (vV 4 false 0 ⟨#[]⟩ [enc m v0, enc m v1] []) y := by
  obtain ⟨w0, w1, d, g0, g1, d1, d2, hl⟩ := nlp2 (zs := zs) IH (e := e + 1) (by omega) (by omega) [enc m v0, enc m v1] h0v h1v
  have hn : (0 : Int) ≤ (mN m : Int) := by omega
  obtain ⟨k0, f0, n0, s0, l0, m0, x0⟩ := enc_vV m v0
  have z0 : cE (m + 2) (up2 m v0) = c6 k0 f0 n0 s0 l0 m0 := by unfold cE; rw [up2_enc, x0]; rfl
  obtain ⟨k1, f1, n1, s1, l1, m1, x1⟩ := enc_vV m v1
  have z1 : cE (m + 2) (up2 m v1) = c6 k1 f1 n1 s1 l1 m1 := by unfold cE; rw [up2_enc, x1]; rfl
  obtain ⟨k0', f0', n0', s0', l0', m0', x0'⟩ := enc_vV (m + 2) w0
  have z0' : cE (m + 2) w0 = c6 k0' f0' n0' s0' l0' m0' := by unfold cE; rw [x0']; rfl
  obtain ⟨k1', f1', n1', s1', l1', m1', x1'⟩ := enc_vV (m + 2) w1
  have z1' : cE (m + 2) w1 = c6 k1' f1' n1' s1' l1' m1' := by unfold cE; rw [x1']; rfl
  rw [z0', z1'] at hl
  rw [z0, z1] at hl
  rw [x0, x1] at hl ⊢
  have hA : LSpec 1 Tryz.prog 113 (oneLoop (codeOf Tryz.f5) 6) (hookLS 1 113 [0, 3, 4, 5, 23, 24] [] [0, 3, 4, 5] (fun vals h K => (vals = vNL 2 0 ∧ h = nL (intsV zs) (e + 1) [vV k0 f0 n0 s0 l0 m0, vV k1 f1 n1 s1 l1 m1] (c6 k0 f0 n0 s0 l0 m0 ++ c6 k1 f1 n1 s1 l1 m1)) ∧ K (.exit 1) [p0V, p1V, p2V, .slice (some ⟨3, 0, none⟩) 2 2] (nL (intsV zs) d [vV k0 f0 n0 s0 l0 m0, vV k1 f1 n1 s1 l1 m1] (c6 k0' f0' n0' s0' l0' m0' ++ c6 k1' f1' n1' s1' l1' m1')))) := by
    refine hookE_ok (sameX := []) mixed (by decide) ?_
    rintro vals h K ⟨⟨rfl, rfl⟩, hK⟩
    exact ⟨_, hl K hK⟩
  have hG := loops_or (loops_one oneNR6 hA) (gh15 (intsV zs))
  by_cases hr : nextR (intsV zs) e 3 = 0
  · obtain ⟨x, e', b1, b2, b3, b4⟩ := H2 (e + 1) (by omega) (by have : mR 2 = 570 := rfl; omega)
    have e570 : mR 2 = 570 := rfl
    obtain ⟨ka, fa, na, sa, la, ma, hx⟩ := enc_vV 2 x
    rw [hx] at b4
    refine ⟨vV ka fa na sa la ma, e', .inl ⟨x, b1, hx.symm⟩, by omega, by omega, ?_⟩
    have e0 := nh4_2 (intsV zs) true false e d (e + 1) e' 0 0 ka fa na sa la ma 0 false 0 ⟨#[]⟩ [] [] k0 f0 n0 s0 l0 m0 k1 f1 n1 s1 l1 m1 k0' f0' n0' s0' l0' m0' k1' f1' n1' s1' l1' m1' (fun vals h => vals = vNL 2 0 ∧ h = nL (intsV zs) (e + 1) [vV k0 f0 n0 s0 l0 m0, vV k1 f1 n1 s1 l1 m1] (c6 k0 f0 n0 s0 l0 m0 ++ c6 k1 f1 n1 s1 l1 m1)) (fun v o => v = vV ka fa na sa la ma ∧ o = some (strm (intsV zs) e'))
    exact FnOK.ttree (SRw_ok (fun _ => ⟨rfl, b4⟩) (fun h => Bool.noConfusion h)).cfg mixed Tryz.func5 someNR hG e0 (drT_mk h0 (by omega) (pick_t (by rw [hr]; rfl) (need_mk (rwC_mk rfl) ⟨rfl, rfl⟩)))
  · by_cases hr2 : nextR (intsV zs) d 3 = 0
    · obtain ⟨x, e', b1, b2, b3, b4⟩ := H1 (d + 1) (by omega) (by have : mR 1 = 80 := rfl; omega)
      have e80 : mR 1 = 80 := rfl
      obtain ⟨x', q1, q2⟩ := t1_up (m + 1) b1
      obtain ⟨kb, fb, nb, sb, lb, mb, hx⟩ := enc_vV 1 x
      rw [hx] at b4 q2
      refine ⟨vV 4 false 0 ⟨#[]⟩ ([w0, w1].map (enc (m + 2)) ++ [vV kb fb nb sb lb mb]) [], e', .inr ⟨[w0, w1] ++ [x'], by simp, fun y hy => ?_, ?_⟩, by omega, by omega, ?_⟩
      · simp only [List.mem_append, List.mem_cons, List.not_mem_nil, or_false] at hy
        rcases hy with (rfl | rfl) | rfl
        · exact g0
        · exact g1
        · exact q1
      · rw [List.map_append, ← q2]; rfl
      · rw [show (([w0, w1] : List (ValLaw.T (m + 2))).map (enc (m + 2))) = [vV k0' f0' n0' s0' l0' m0', vV k1' f1' n1' s1' l1' m1'] from by rw [← x0', ← x1']; rfl]
        have e0 := nh4_2 (intsV zs) false true e d 0 0 (d + 1) e' 0 false 0 ⟨#[]⟩ [] [] kb fb nb sb lb mb k0 f0 n0 s0 l0 m0 k1 f1 n1 s1 l1 m1 k0' f0' n0' s0' l0' m0' k1' f1' n1' s1' l1' m1' (fun vals h => vals = vNL 2 0 ∧ h = nL (intsV zs) (e + 1) [vV k0 f0 n0 s0 l0 m0, vV k1 f1 n1 s1 l1 m1] (c6 k0 f0 n0 s0 l0 m0 ++ c6 k1 f1 n1 s1 l1 m1)) (fun v o => v = vV 4 false 0 ⟨#[]⟩ ([vV k0' f0' n0' s0' l0' m0', vV k1' f1' n1' s1' l1' m1'] ++ [vV kb fb nb sb lb mb]) [] ∧ o = some (strm (intsV zs) e'))
        exact FnOK.ttree (SRw_ok (fun h => Bool.noConfusion h) (fun _ => ⟨rfl, b4⟩)).cfg mixed Tryz.func5 someNR hG e0 (drT_mk h0 (by omega) (pick_f (beq_eq_false_iff_ne.2 hr) ⟨⟨rfl, rfl⟩, drT_mk (by omega) (by omega) (pick_t (by rw [hr2]; rfl) (need_mk (rwC_mk rfl) ⟨rfl, rfl⟩))⟩))
    · by_cases hr3 : nextR (intsV zs) (d + 1) 3 = 0
      · refine ⟨vV 4 false 0 ⟨#[]⟩ (([w0] : List (ValLaw.T (m + 2))).map (enc (m + 2))) [], d + 1 + 1, .inr ⟨([w0] : List (ValLaw.T (m + 2))), by simp, fun y hy => ?_, rfl⟩, by omega, by omega, ?_⟩
        · simp only [List.mem_cons, List.not_mem_nil, or_false] at hy
          rcases hy with rfl
          · exact g0
        · rw [show (([w0] : List (ValLaw.T (m + 2))).map (enc (m + 2))) = [vV k0' f0' n0' s0' l0' m0'] from by rw [← x0']; rfl]
          have e0 := nh4_2 (intsV zs) false false e d 0 0 0 0 0 false 0 ⟨#[]⟩ [] [] 0 false 0 ⟨#[]⟩ [] [] k0 f0 n0 s0 l0 m0 k1 f1 n1 s1 l1 m1 k0' f0' n0' s0' l0' m0' k1' f1' n1' s1' l1' m1' (fun vals h => vals = vNL 2 0 ∧ h = nL (intsV zs) (e + 1) [vV k0 f0 n0 s0 l0 m0, vV k1 f1 n1 s1 l1 m1] (c6 k0 f0 n0 s0 l0 m0 ++ c6 k1 f1 n1 s1 l1 m1)) (fun v o => v = vV 4 false 0 ⟨#[]⟩ [vV k0' f0' n0' s0' l0' m0'] [] ∧ o = some (strm (intsV zs) (d + 1 + 1)))
          exact FnOK.ttree (SRw_ok (fun h => Bool.noConfusion h) (fun h => Bool.noConfusion h)).cfg mixed Tryz.func5 someNR hG e0 (drT_mk h0 (by omega) (pick_f (beq_eq_false_iff_ne.2 hr) ⟨⟨rfl, rfl⟩, drT_mk (by omega) (by omega) (pick_f (beq_eq_false_iff_ne.2 hr2) (drT_mk (by omega) (by omega) (pick_t (by rw [hr3]; rfl) ⟨rfl, rfl⟩)))⟩))
      · refine ⟨vV 4 false 0 ⟨#[]⟩ ([w0, w1].map (enc (m + 2))) [], d + 1 + 1, .inr ⟨[w0, w1], by simp, fun y hy => ?_, rfl⟩, by omega, by omega, ?_⟩
        · simp only [List.mem_cons, List.not_mem_nil, or_false] at hy
          rcases hy with rfl | rfl
          · exact g0
          · exact g1
        · rw [show (([w0, w1] : List (ValLaw.T (m + 2))).map (enc (m + 2))) = [vV k0' f0' n0' s0' l0' m0', vV k1' f1' n1' s1' l1' m1'] from by rw [← x0', ← x1']; rfl]
          have e0 := nh4_2 (intsV zs) false false e d 0 0 0 0 0 false 0 ⟨#[]⟩ [] [] 0 false 0 ⟨#[]⟩ [] [] k0 f0 n0 s0 l0 m0 k1 f1 n1 s1 l1 m1 k0' f0' n0' s0' l0' m0' k1' f1' n1' s1' l1' m1' (fun vals h => vals = vNL 2 0 ∧ h = nL (intsV zs) (e + 1) [vV k0 f0 n0 s0 l0 m0, vV k1 f1 n1 s1 l1 m1] (c6 k0 f0 n0 s0 l0 m0 ++ c6 k1 f1 n1 s1 l1 m1)) (fun v o => v = vV 4 false 0 ⟨#[]⟩ [vV k0' f0' n0' s0' l0' m0', vV k1' f1' n1' s1' l1' m1'] [] ∧ o = some (strm (intsV zs) (d + 1 + 1)))
          exact FnOK.ttree (SRw_ok (fun h => Bool.noConfusion h) (fun h => Bool.noConfusion h)).cfg mixed Tryz.func5 someNR hG e0 (drT_mk h0 (by omega) (pick_f (beq_eq_false_iff_ne.2 hr) ⟨⟨rfl, rfl⟩, drT_mk (by omega) (by omega) (pick_f (beq_eq_false_iff_ne.2 hr2) (drT_mk (by omega) (by omega) (pick_f (beq_eq_false_iff_ne.2 hr3) ⟨rfl, rfl⟩)))⟩))
theorem nls3 {zs : List Int} {m : Nat} (IH : NearEx zs m) (H2 : RvEx zs 2) (H1 : RvEx zs 1) {v0 v1 v2 : ValLaw.T m} (h0v : ValLaw.GR m v0) (h1v : ValLaw.GR m v1) (h2v : ValLaw.GR m v2) {e : Int} (h0 : 0 ≤ e) (h1 : e + 1 + 3 * (1 + (mN m : Int)) + 1000 ≤ 900000) :
    ∃ (y : Value) (e' : Int), ((∃ x : ValLaw.T 2, ValLaw.GR 2 x ∧ y = enc 2 x) ∨ ∃ L : List (ValLaw.T (m + 2)), L.length ≤ 4 ∧ (∀ x ∈ L, ValLaw.GV (m + 2) x) ∧ y = vV 4 false 0 ⟨#[]⟩ (L.map (enc (m + 2))) []) ∧ e ≤ e' ∧ e' ≤ e + 1 + 3 * (1 + (mN m : Int)) + 1000 ∧ NrF (intsV zs) e e' (vV 4 false 0 ⟨#[]⟩ [enc m v0, enc m v1, enc m v2] []) y := by
  obtain ⟨w0, w1, w2, d, g0, g1, g2, d1, d2, hl⟩ := nlp3 (zs := zs) IH (e := e + 1) (by omega) (by omega) [enc m v0, enc m v1, enc m v2] h0v h1v h2v
  have hn : (0 : Int) ≤ (mN m : Int) := by omega
  obtain ⟨k0, f0, n0, s0, l0, m0, x0⟩ := enc_vV m v0
  have z0 : cE (m + 2) (up2 m v0) = c6 k0 f0 n0 s0 l0 m0 := by unfold cE; rw [up2_enc, x0]; rfl
  obtain ⟨k1, f1, n1, s1, l1, m1, x1⟩ := enc_vV m v1
  have z1 : cE (m + 2) (up2 m v1) = c6 k1 f1 n1 s1 l1 m1 := by unfold cE; rw [up2_enc, x1]; rfl
  obtain ⟨k2, f2, n2, s2, l2, m2, x2⟩ := enc_vV m v2
  have z2 : cE (m + 2) (up2 m v2) = c6 k2 f2 n2 s2 l2 m2 := by unfold cE; rw [up2_enc, x2]; rfl
  obtain ⟨k0', f0', n0', s0', l0', m0', x0'⟩ := enc_vV (m + 2) w0
  have z0' : cE (m + 2) w0 = c6 k0' f0' n0' s0' l0' m0' := by unfold cE; rw [x0']; rfl
  obtain ⟨k1', f1', n1', s1', l1', m1', x1'⟩ := enc_vV (m + 2) w1
  have z1' : cE (m + 2) w1 = c6 k1' f1' n1' s1' l1' m1' := by unfold cE; rw [x1']; rfl
  obtain ⟨k2', f2', n2', s2', l2', m2', x2'⟩ := enc_vV (m + 2) w2
  have z2' : cE (m + 2) w2 = c6 k2' f2' n2' s2' l2' m2' := by unfold cE; rw [x2']; rfl
  rw [z0', z1', z2'] at hl
  rw [z0, z1, z2] at hl
  rw [x0, x1, x2] at hl ⊢
  have hA : LSpec 1 Tryz.prog 113 (oneLoop (codeOf Tryz.f5) 6) (hookLS 1 113 [0, 3, 4, 5, 23, 24] [] [0, 3, 4, 5] (fun vals h K => (vals = vNL 3 0 ∧ h = nL (intsV zs) (e + 1) [vV k0 f0 n0 s0 l0 m0, vV k1 f1 n1 s1 l1 m1, vV k2 f2 n2 s2 l2 m2] (c6 k0 f0 n0 s0 l0 m0 ++ c6 k1 f1 n1 s1 l1 m1 ++ c6 k2 f2 n2 s2 l2 m2)) ∧ K (.exit 1) [p0V, p1V, p2V, .slice (some ⟨3, 0, none⟩) 3 3] (nL (intsV zs) d [vV k0 f0 n0 s0 l0 m0, vV k1 f1 n1 s1 l1 m1, vV k2 f2 n2 s2 l2 m2] (c6 k0' f0' n0' s0' l0' m0' ++ c6 k1' f1' n1' s1' l1' m1' ++ c6 k2' f2' n2' s2' l2' m2')))) := by
    refine hookE_ok (sameX := []) mixed (by decide) ?_
    rintro vals h K ⟨⟨rfl, rfl⟩, hK⟩
    exact ⟨_, hl K hK⟩
  have hG := loops_or (loops_one oneNR6 hA) (gh15 (intsV zs))
  by_cases hr : nextR (intsV zs) e 3 = 0
  · obtain ⟨x, e', b1, b2, b3, b4⟩ := H2 (e + 1) (by omega) (by have : mR 2 = 570 := rfl; omega)
    have e570 : mR 2 = 570 := rfl
    obtain ⟨ka, fa, na, sa, la, ma, hx⟩ := enc_vV 2 x
    rw [hx] at b4
    refine ⟨vV ka fa na sa la ma, e', .inl ⟨x, b1, hx.symm⟩, by omega, by omega, ?_⟩
    have e0 := nh4_3 (intsV zs) true false e d (e + 1) e' 0 0 ka fa na sa la ma 0 false 0 ⟨#[]⟩ [] [] k0 f0 n0 s0 l0 m0 k1 f1 n1 s1 l1 m1 k2 f2 n2 s2 l2 m2 k0' f0' n0' s0' l0' m0' k1' f1' n1' s1' l1' m1' k2' f2' n2' s2' l2' m2' (fun vals h => vals = vNL 3 0 ∧ h = nL (intsV zs) (e + 1) [vV k0 f0 n0 s0 l0 m0, vV k1 f1 n1 s1 l1 m1, vV k2 f2 n2 s2 l2 m2] (c6 k0 f0 n0 s0 l0 m0 ++ c6 k1 f1 n1 s1 l1 m1 ++ c6 k2 f2 n2 s2 l2 m2)) (fun v o => v = vV ka fa na sa la ma ∧ o = some (strm (intsV zs) e'))
    exact FnOK.ttree (SRw_ok (fun _ => ⟨rfl, b4⟩) (fun h => Bool.noConfusion h)).cfg mixed Tryz.func5 someNR hG e0 (drT_mk h0 (by omega) (pick_t (by rw [hr]; rfl) (need_mk (rwC_mk rfl) ⟨rfl, rfl⟩)))
  · by_cases hr2 : nextR (intsV zs) d 3 = 0
    · obtain ⟨x, e', b1, b2, b3, b4⟩ := H1 (d + 1) (by omega) (by have : mR 1 = 80 := rfl; omega)
      have e80 : mR 1 = 80 := rfl
      obtain ⟨x', q1, q2⟩ := t1_up (m + 1) b1
      obtain ⟨kb, fb, nb, sb, lb, mb, hx⟩ := enc_vV 1 x
      rw [hx] at b4 q2
      refine ⟨vV 4 false 0 ⟨#[]⟩ ([w0, w1, w2].map (enc (m + 2)) ++ [vV kb fb nb sb lb mb]) [], e', .inr ⟨[w0, w1, w2] ++ [x'], by simp, fun y hy => ?_, ?_⟩, by omega, by omega, ?_⟩
      · simp only [List.mem_append, List.mem_cons, List.not_mem_nil, or_false] at hy
        rcases hy with (rfl | rfl | rfl) | rfl
        · exact g0
        · exact g1
        · exact g2
        · exact q1
      · rw [List.map_append, ← q2]; rfl
      · rw [show (([w0, w1, w2] : List (ValLaw.T (m + 2))).map (enc (m + 2))) = [vV k0' f0' n0' s0' l0' m0', vV k1' f1' n1' s1' l1' m1', vV k2' f2' n2' s2' l2' m2'] from by rw [← x0', ← x1', ← x2']; rfl]
        have e0 := nh4_3 (intsV zs) false true e d 0 0 (d + 1) e' 0 false 0 ⟨#[]⟩ [] [] kb fb nb sb lb mb k0 f0 n0 s0 l0 m0 k1 f1 n1 s1 l1 m1 k2 f2 n2 s2 l2 m2 k0' f0' n0' s0' l0' m0' k1' f1' n1' s1' l1' m1' k2' f2' n2' s2' l2' m2' (fun vals h => vals = vNL 3 0 ∧ h = nL (intsV zs) (e + 1) [vV k0 f0 n0 s0 l0 m0, vV k1 f1 n1 s1 l1 m1, vV k2 f2 n2 s2 l2 m2] (c6 k0 f0 n0 s0 l0 m0 ++ c6 k1 f1 n1 s1 l1 m1 ++ c6 k2 f2 n2 s2 l2 m2)) (fun v o => v = vV 4 false 0 ⟨#[]⟩ ([vV k0' f0' n0' s0' l0' m0', vV k1' f1' n1' s1' l1' m1', vV k2' f2' n2' s2' l2' m2'] ++ [vV kb fb nb sb lb mb]) [] ∧ o = some (strm (intsV zs) e'))
        exact FnOK.ttree (SRw_ok (fun h => Bool.noConfusion h) (fun _ => ⟨rfl, b4⟩)).cfg mixed Tryz.func5 someNR hG e0 (drT_mk h0 (by omega) (pick_f (beq_eq_false_iff_ne.2 hr) ⟨⟨rfl, rfl⟩, drT_mk (by omega) (by omega) (pick_t (by rw [hr2]; rfl) (need_mk (rwC_mk rfl) ⟨rfl, rfl⟩))⟩))
    · by_cases hr3 : nextR (intsV zs) (d + 1) 3 = 0
      · refine ⟨vV 4 false 0 ⟨#[]⟩ (([w0, w1] : List (ValLaw.T (m + 2))).map (enc (m + 2))) [], d + 1 + 1, .inr ⟨([w0, w1] : List (ValLaw.T (m + 2))), by simp, fun y hy => ?_, rfl⟩, by omega, by omega, ?_⟩
        · simp only [List.mem_cons, List.not_mem_nil, or_false] at hy
          rcases hy with rfl | rfl
          · exact g0
          · exact g1
        · rw [show (([w0, w1] : List (ValLaw.T (m + 2))).map (enc (m + 2))) = [vV k0' f0' n0' s0' l0' m0', vV k1' f1' n1' s1' l1' m1'] from by rw [← x0', ← x1']; rfl]
          have e0 := nh4_3 (intsV zs) false false e d 0 0 0 0 0 false 0 ⟨#[]⟩ [] [] 0 false 0 ⟨#[]⟩ [] [] k0 f0 n0 s0 l0 m0 k1 f1 n1 s1 l1 m1 k2 f2 n2 s2 l2 m2 k0' f0' n0' s0' l0' m0' k1' f1' n1' s1' l1' m1' k2' f2' n2' s2' l2' m2' (fun vals h => vals = vNL 3 0 ∧ h = nL (intsV zs) (e + 1) [vV k0 f0 n0 s0 l0 m0, vV k1 f1 n1 s1 l1 m1, vV k2 f2 n2 s2 l2 m2] (c6 k0 f0 n0 s0 l0 m0 ++ c6 k1 f1 n1 s1 l1 m1 ++ c6 k2 f2 n2 s2 l2 m2)) (fun v o => v = vV 4 false 0 ⟨#[]⟩ [vV k0' f0' n0' s0' l0' m0', vV k1' f1' n1' s1' l1' m1'] [] ∧ o = some (strm (intsV zs) (d + 1 + 1)))
          exact FnOK.ttree (SRw_ok (fun h => Bool.noConfusion h) (fun h => Bool.noConfusion h)).cfg mixed Tryz.func5 someNR hG e0 (drT_mk h0 (by omega) (pick_f (beq_eq_false_iff_ne.2 hr) ⟨⟨rfl, rfl⟩, drT_mk (by omega) (by omega) (pick_f (beq_eq_false_iff_ne.2 hr2) (drT_mk (by omega) (by omega) (pick_t (by rw [hr3]; rfl) ⟨rfl, rfl⟩)))⟩))
      · refine ⟨vV 4 false 0 ⟨#[]⟩ ([w0, w1, w2].map (enc (m + 2))) [], d + 1 + 1, .inr ⟨[w0, w1, w2], by simp, fun y hy => ?_, rfl⟩, by omega, by omega, ?_⟩
        · simp only [List.mem_cons, List.not_mem_nil, or_false] at hy
          rcases hy with rfl | rfl | rfl
          · exact g0
          · exact g1
          · exact g2
        · rw [show (([w0, w1, w2] : List (ValLaw.T (m + 2))).map (enc (m + 2))) = [vV k0' f0' n0' s0' l0' m0', vV k1' f1' n1' s1' l1' m1', vV k2' f2' n2' s2' l2' m2'] from by rw [← x0', ← x1', ← x2']; rfl]
          have e0 := nh4_3 (intsV zs) false false e d 0 0 0 0 0 false 0 ⟨#[]⟩ [] [] 0 false 0 ⟨#[]⟩ [] [] k0 f0 n0 s0 l0 m0 k1 f1 n1 s1 l1 m1 k2 f2 n2 s2 l2 m2 k0' f0' n0' s0' l0' m0' k1' f1' n1' s1' l1' m1' k2' f2' n2' s2' l2' m2' (fun vals h => vals = vNL 3 0 ∧ h = nL (intsV zs) (e + 1) [vV k0 f0 n0 s0 l0 m0, vV k1 f1 n1 s1 l1 m1, vV k2 f2 n2 s2 l2 m2] (c6 k0 f0 n0 s0 l0 m0 ++ c6 k1 f1 n1 s1 l1 m1 ++ c6 k2 f2 n2 s2 l2 m2)) (fun v o => v = vV 4 false 0 ⟨#[]⟩ [vV k0' f0' n0' s0' l0' m0', vV k1' f1' n1' s1' l1' m1', vV k2' f2' n2' s2' l2' m2'] [] ∧ o = some (strm (intsV zs) (d + 1 + 1)))
          exact FnOK.ttree (SRw_ok (fun h => Bool.noConfusion h) (fun h => Bool.noConfusion h)).cfg mixed Tryz.func5 someNR hG e0 (drT_mk h0 (by omega) (pick_f (beq_eq_false_iff_ne.2 hr) ⟨⟨rfl, rfl⟩, drT_mk (by omega) (by omega) (pick_f (beq_eq_false_iff_ne.2 hr2) (drT_mk (by omega) (by omega) (pick_f (beq_eq_false_iff_ne.2 hr3) ⟨rfl, rfl⟩)))⟩))
end Go.Proofs.YtljfobpjblnagaaGreatDoor
