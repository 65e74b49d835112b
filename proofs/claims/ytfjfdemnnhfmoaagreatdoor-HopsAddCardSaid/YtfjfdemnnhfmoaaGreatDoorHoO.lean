/-
  Headers: Client's contract.
-/
import Derived.Test.YtfjfdemnnhfmoaaGreatDoorHoN
namespace Go.Proofs.YtfjfdemnnhfmoaaGreatDoor
open Go.Ev Go.RowKit RecLaw PathLaw HopLaw

theorem someCL : Tryz.f19.body.isSome = true := by kernel_rfl
theorem cl_l1 : ((loopsOf (codeOf Tryz.f19)).all fun b => match rid b with | some j => Nat.blt j 1000000 | none => true) = true := by kernel_rfl
theorem cl_l2 : (rangeAt (codeOf Tryz.f19) 12).length = 1 := by kernel_rfl
/-- What may be found: the last sender that is not told. -/
def clR2 (zs : List ByteArray) (s : ByteArray) : Prop := ∃ k ini x, k ≤ zs.length ∧ upto (bwd zs) k = ini ++ [x] ∧ (∀ y ∈ ini, toldS y.2 = true) ∧ toldS x.2 = false ∧ x.2 = s
/-- All senders are told. -/
def clAll (zs : List ByteArray) : Prop := ∀ y ∈ upto (bwd zs) zs.length, toldS y.2 = true
theorem cl_hook {n : Nat} {cs : List Value} {x0 : ByteArray} {zs : List ByteArray} (hz : zs = x0 :: zs.tail) (hn : zs.length = n) (hc : cs = zs.tail.map Value.string) (hl : zs.length ≤ 5000) :
    LoopsOK 1 Tryz.prog 47 (range1 12 (hookLS 1 47 clL [4] clL (fun vals h K => (vals = clV n ∧ h = clH ⟨#[]⟩ n (.string x0 :: cs)) ∧ (clAll zs → K .normal (clV n) (clH ⟨#[]⟩ n (.string x0 :: cs))) ∧ ∀ s, clR2 zs s → K .ret (clV n) (clR s n (.string x0 :: cs))))) (codeOf Tryz.f19) := by
  refine ranges_one cl_l1 cl_l2 (hookR_ok (by decide) ?_)
  rintro vals h K ⟨⟨rfl, rfl⟩, kN, kR⟩
  have e : (Value.string x0 :: cs) = zs.map Value.string := by
    have : zs.map Value.string = (x0 :: zs.tail).map Value.string := by rw [← hz]
    rw [this, hc]; rfl
  rw [e] at kN kR ⊢
  subst hn
  refine (cl_tri (zs := zs) ⟨#[]⟩ (by rw [hz]; simp) hl).mono ?_
  rintro e τ' h' ⟨rfl, hq⟩
  cases e with
  | normal => obtain ⟨rfl, hall⟩ := hq; exact ⟨_, rfl, kN hall⟩
  | exit i => exact hq.elim
  | ret => obtain ⟨k, ini, x, q1, q2, q3, q4, rfl⟩ := hq; exact ⟨_, rfl, kR x.2 ⟨k, ini, x, q1, q2, q3, q4, rfl⟩⟩
theorem clR2_last {ps : List ByteArray} {x s : ByteArray} (hx : toldS x = false) (h : clR2 (ps ++ [x] ++ [lastB]) s) : s = x := by
  obtain ⟨k, ini, y, hk, he, hi, hy, rfl⟩ := h
  have b0 : bwd (ps ++ [x] ++ [lastB]) 0 = ((ps.length : Int) + 1, lastB) := by
    unfold bwd
    simp
    omega
  have b1 : (bwd (ps ++ [x] ++ [lastB]) 1).2 = x := by
    unfold bwd
    simp
  have hl : toldS lastB = true := by simp [toldS]
  match k, he with
  | 0, he => simp [upto] at he
  | 1, he =>
    have : ini = [] ∧ y = bwd (ps ++ [x] ++ [lastB]) 0 := by
      rw [show upto (bwd (ps ++ [x] ++ [lastB])) 1 = [] ++ [bwd (ps ++ [x] ++ [lastB]) 0] from rfl] at he
      obtain ⟨h1, h2⟩ := List.append_inj' he.symm rfl
      exact ⟨h1, by simpa using h2⟩
    rw [this.2, b0, hl] at hy
    cases hy
  | 2, he =>
    rw [upto_succ] at he
    obtain ⟨h1, h2⟩ := List.append_inj' he.symm rfl
    have : y = bwd (ps ++ [x] ++ [lastB]) 1 := by simpa using h2
    rw [this, b1]
  | k + 3, he =>
    rw [upto_succ] at he
    obtain ⟨h1, h2⟩ := List.append_inj' he.symm rfl
    have hm : bwd (ps ++ [x] ++ [lastB]) 1 ∈ ini := by
      rw [h1]
      unfold upto
      exact List.mem_map.2 ⟨1, by simp, rfl⟩
    have := hi _ hm
    rw [b1, hx] at this
    cases this
/-- What Client says: the last sender, where that is not told. -/
def clQ (l : List (ByteArray × ByteArray)) (v : Value) (o : Option Obj) : Prop := (∃ c, v = .tuple ⟨[.string c, .int .i64 0]⟩ ∧ ∀ ps x, partsB (vB xffB l) = ps ++ [x] → toldS (bl x) = false → c = bl x) ∧ o = clO
set_option maxRecDepth 100000 in
theorem cl_fn {a : Int} {m ho p q bd : ByteArray} {l : List (ByteArray × ByteArray)} (hr : okRq a m ho p q lastB bd l = true) (h7 : l.length ≤ 7) (hs : ∀ p ∈ l, p.2.size ≤ 1000) (hp : (partsB (vB xffB l)).length ≤ 4000) :
    FnOK 1 Tryz.prog 19 ⟨[rqV a m ho p q lastB l bd, clA]⟩ clG (fun v g => clQ l v (g.get 0)) := by
  have hN := okN_of (rq_ok hr)
  have e0 : (hX l).all shpH = true := shp_hv l
  have e1 : hlist (hX l) = l := hlist_hv l
  have hpt : ptS (vsL xffB l) = partsB (vB xffB l) := by unfold ptS; rw [blS_vsL]
  have hmap : ∀ L : List (List UInt8), L.map strV ++ [.string lastB] = (L.map bl ++ [lastB]).map Value.string := fun L => by
    rw [List.map_append, List.map_map]; rfl
  cases hc : partsB (vB xffB l) with
  | nil =>
    refine FnOK.ttree (p := 1) (SCl_ok true) mixed Tryz.func19 someCL (cl_hook (n := 1) (cs := []) (x0 := lastB) (zs := [lastB]) rfl rfl rfl (by simp)) (clN a m ho p q bd l 1 [] lastB (fun vals h => vals = clV 1 ∧ h = clH ⟨#[]⟩ 1 (.string lastB :: [])) (clAll [lastB]) (clR2 [lastB]) (clQ l)) ?_
    refine need_mk (by rw [e0, e1, hr]; rfl) (need_mk (okV_mk hN (by omega) rfl) (need_mk (by rw [okPt_mk hs (by omega), hpt, hc]; rfl) ⟨nnV _ _ (by simp [p1]), ⟨rfl, rfl⟩, ?_, ?_⟩))
    · intro _
      exact pick_f rfl (need_mk rfl ⟨⟨lastB, rfl, fun ps x h => by rw [hc] at h; simp at h⟩, rfl⟩)
    · exact fun s _ => ⟨⟨s, rfl, fun ps x h => by rw [hc] at h; simp at h⟩, rfl⟩
  | cons d D =>
    have hD : (d :: D).length ≤ 4000 := by rw [← hc]; exact hp
    refine FnOK.ttree (p := 1) (SCl_ok false) mixed Tryz.func19 someCL (cl_hook (n := (d :: D).length + 1) (cs := ((D.map bl) ++ [lastB]).map Value.string) (x0 := bl d) (zs := (d :: D).map bl ++ [lastB]) rfl (by simp) rfl (by simp at hD ⊢; omega)) (clF a m ho p q bd l ((d :: D).length + 1) (((D.map bl) ++ [lastB]).map Value.string) (bl d) (fun vals h => vals = clV ((d :: D).length + 1) ∧ h = clH ⟨#[]⟩ ((d :: D).length + 1) (.string (bl d) :: (((D.map bl) ++ [lastB]).map Value.string))) (clAll ((d :: D).map bl ++ [lastB])) (clR2 ((d :: D).map bl ++ [lastB])) (clQ l)) ?_
    refine need_mk (by rw [e0, e1, hr]; rfl) (need_mk (okV_mk hN (by omega) rfl) (need_mk (by rw [okPt_mk hs (by omega), hpt, hc]; rfl) ?_))
    rw [hpt, hc]
    refine apS_ok (D := d :: D) (w := lastB.data.toList) (by omega) ?_
    have el : ((d :: D) ++ [lastB.data.toList]).map strV = ((d :: D).map bl ++ [lastB]).map Value.string := by
      rw [← hmap, List.map_append]; rfl
    refine ⟨nnS _ _ _, ⟨by rw [List.length_append]; rfl, ?_⟩, ?_, ?_⟩
    · rw [el, List.length_append]; rfl
    · intro hall
      refine pick_f (by simp; omega) (need_mk (by simp; omega) ⟨⟨bl d, rfl, fun ps x h hx => ?_⟩, rfl⟩)
      rw [← hc, h, List.map_append] at hall
      have := hall (bwd (ps.map bl ++ [bl x] ++ [lastB]) 1) (List.mem_map.2 ⟨1, by simp, rfl⟩)
      rw [show (bwd (ps.map bl ++ [bl x] ++ [lastB]) 1).2 = bl x by unfold bwd; simp, hx] at this
      cases this
    · rintro s hs2
      refine ⟨⟨s, rfl, fun ps x h hx => ?_⟩, rfl⟩
      rw [← hc, h, List.map_append] at hs2
      exact clR2_last hx hs2
end Go.Proofs.YtfjfdemnnhfmoaaGreatDoor
