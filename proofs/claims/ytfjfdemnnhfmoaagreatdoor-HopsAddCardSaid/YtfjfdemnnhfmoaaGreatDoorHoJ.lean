/-
  Headers: Forward: the contracts.
-/
import Derived.Test.YtfjfdemnnhfmoaaGreatDoorHoI
namespace Go.Proofs.YtfjfdemnnhfmoaaGreatDoor
open Go.Ev Go.RowKit RecLaw PathLaw HopLaw

theorem someFW : Tryz.f18.body.isSome = true := by kernel_rfl
/-- The headers that are sent on. -/
noncomputable def sent (by_ ho f : ByteArray) (l : List (ByteArray × ByteArray)) : List (ByteArray × ByteArray) := st3 by_ (st2 ho (st1 f (removeAll (hopsB ++ partsB (vB conB l)) l)))
noncomputable def fwV (a : Int) (m ho p q f bd by_ : ByteArray) (l : List (ByteArray × ByteArray)) : Value :=
  bif hasS ((partsB (vB viaB l)).map strV) by_ then eR 14 else bif decide (20 ≤ (partsB (vB viaB l)).length) then eR 2
  else bif bigV (sent by_ ho f l) then eR 2 else .tuple ⟨[rqV a m ho p q f (sent by_ ho f l) bd, .int .i64 0]⟩
theorem okN_of {l : List (ByteArray × ByteArray)} (h : l.all okH = true) : l.all okN = true := by
  rw [List.all_eq_true] at h ⊢
  intro p hp
  have := h p hp
  unfold okH at this
  rw [Bool.and_eq_true] at this
  exact this.1
theorem nnV (cs : List Value) (t : TypeId) (h : ∀ v ∈ cs, p1 v = true) : NoNames (.cells ⟨cs⟩ t (0, 0)) := h
theorem parts_len {k : ByteArray} {l : List (ByteArray × ByteArray)} (hs : ∀ p ∈ l, p.2.size ≤ 500) (h4 : l.length ≤ 7) : (partsB (vB k l)).length ≤ 3600 := by
  have h1 := partsB_len (vB k l)
  have h2 : ∀ L : List (List UInt8), (∀ v ∈ L, v.length ≤ 500) → (L.map fun v => v.length + 1).sum ≤ 501 * L.length := by
    intro L
    induction L with
    | nil => intro _; exact Nat.zero_le _
    | cons a L ih =>
      intro h
      have := ih fun v hv => h v (by simp [hv])
      have := h a (by simp)
      rw [List.map_cons, List.sum_cons, List.length_cons]
      omega
  have h3 := h2 (vB k l) fun v hv => vB_mem hs hv
  have h5 := vB_len k l
  have h6 := val_len k l
  omega
theorem rq_ok {a : Int} {m ho p q f bd : ByteArray} {l : List (ByteArray × ByteArray)} (h : okRq a m ho p q f bd l = true) : l.all okH = true := by
  unfold okRq at h
  simp only [Bool.and_eq_true] at h
  exact h.1.2.1
theorem fw_fn {a : Int} {m ho p q f bd by_ : ByteArray} {l : List (ByteArray × ByteArray)} (hr : okRq a m ho p q f bd l = true) (hu : inU namesU by_ = true) (h4 : l.length ≤ 4) (hs : ∀ p ∈ l, p.2.size ≤ 100)
    (hc : ∀ k ∈ partsB (vB conB l), inU asksU (bl k) = true) (hc8 : (partsB (vB conB l)).length ≤ 8) (hb : by_.size ≤ 100) (hf : f.size ≤ 100) (hh : ho.size ≤ 100) :
    FnOK 0 Tryz.prog 18 ⟨[rqV a m ho p q f l bd, .string by_]⟩ h0 (fun v _ => v = fwV a m ho p q f bd by_ l) := by
  have hN := okN_of (rq_ok hr)
  have hks : ∀ k ∈ hopsB ++ partsB (vB conB l), inU asksU (bl k) = true := fun k hk => by
    rcases List.mem_append.1 hk with hk | hk
    · exact List.all_eq_true.1 (show hopsB.all (fun k => inU asksU (bl k)) = true from rfl) k hk
    · exact hc k hk
  have hlen : (hopsB ++ partsB (vB conB l)).length ≤ 100 := by rw [List.length_append]; have : hopsB.length = 5 := rfl; omega
  have n0 : NoNames (.cells ⟨rqC a m ho p q f bd (fz ⟨hX l⟩)⟩ 41 (0, 0)) := nnV _ _ (by simp [rqC, p1, fz])
  have n1 : NoNames (.cells ⟨zR⟩ 41 (0, 0)) := nnV _ _ (by simp [zR, rqC, p1])
  have hsub := removeAll_sub (hopsB ++ partsB (vB conB l)) l
  refine FnOK.ttree SFw_ok mixed Tryz.func18 someFW (fwl_hook (b := by_) n0 n1 hks hlen hN h4)
    (fw_eq a m ho p q f bd by_ l (removeAll (hopsB ++ partsB (vB conB l)) l) (fun vals h => vals = [.string by_, .pointer (some ⟨0, 0, none⟩), .pointer (some ⟨1, 0, none⟩), fz ⟨l.map hv⟩, fz ⟨(hopsB ++ partsB (vB conB l)).map strV⟩, .int .i64 ((hopsB ++ partsB (vB conB l)).length : Int), .int .i64 0] ∧ h = fwH (rqC a m ho p q f bd (fz ⟨hX l⟩)) zR) (fun v => v = fwV a m ho p q f bd by_ l)) ?_
  have s5 : ∀ p ∈ l, p.2.size ≤ 500 := fun p hp => Nat.le_trans (hs p hp) (by omega)
  have s10 : ∀ p ∈ l, p.2.size ≤ 1000 := fun p hp => Nat.le_trans (hs p hp) (by omega)
  have e0 : (hX l).all shpH = true := shp_hv l
  have e1 : hlist (hX l) = l := hlist_hv l
  have el : (hX l).length = l.length := List.length_map _
  refine need_mk (by rw [e0, e1, hr]; rfl) (need_mk hu (need_mk (okV_mk hN (by omega) rfl) (need_mk (okPt_mk s10 (by omega)) ?_)))
  rw [ptL_eq, ptL_eq]
  refine need_mk (by rw [strV_all, List.length_map, Nat.ble_eq_true_of_le (Nat.le_trans (parts_len s5 (by omega)) (by omega))]; rfl) ?_
  have ez : (Array.mk ((partsB (vB viaB l)).map strV)).size = (partsB (vB viaB l)).length := List.length_map _
  rw [ez]
  have eg : decide (((partsB (vB viaB l)).length : Int) ≥ 20) = decide (20 ≤ (partsB (vB viaB l)).length) := by
    rw [decide_eq_decide]; omega
  rw [eg]
  unfold fwV
  cases c1 : hasS ((partsB (vB viaB l)).map strV) by_ with
  | true => rfl
  | false =>
    cases c2 : decide (20 ≤ (partsB (vB viaB l)).length) with
    | true => rfl
    | false =>
      rw [cond_false, cond_false]
      refine need_mk (by rw [e0, el, Nat.ble_eq_true_of_le h4]; rfl) (need_mk (okV_mk hN (by omega) rfl) (need_mk (okPt_mk s10 (by omega)) (need_mk ?_ ⟨n0, n1, ⟨?_, rfl⟩, ?_⟩)))
      · unfold okCc
        rw [strV_all, List.length_map, Nat.ble_eq_true_of_le hc8, Bool.and_true, Bool.and_true]
        exact @decide_eq_true _ (Classical.propDecidable _) rfl
      · rw [← List.map_append]
        have : (Array.mk ((hopsB ++ partsB (vB conB l)).map strV)).size = (hopsB ++ partsB (vB conB l)).length := List.length_map _
        rw [this]; rfl
      · refine fwB_ok (List.all_eq_true.2 fun p hp => List.all_eq_true.1 hN p (hsub.subset hp)) (Nat.le_trans hsub.length_le h4) (fun p hp => hs p (hsub.subset hp)) hb hh hf ?_
        show bif bigV (sent by_ ho f l) then _ else _
        cases bigV (sent by_ ho f l) <;> rfl
/-- A request that came by this way already. -/
theorem fw2_fn {a : Int} {m ho p q f bd by_ : ByteArray} {l : List (ByteArray × ByteArray)} (hr : okRq a m ho p q f bd l = true) (hu : inU namesU by_ = true) (h4 : l.length ≤ 7) (hs : ∀ p ∈ l, p.2.size ≤ 1000) (hl : (partsB (vB viaB l)).length ≤ 4000)
    (hv : hasS ((partsB (vB viaB l)).map strV) by_ = true) : FnOK 0 Tryz.prog 18 ⟨[rqV a m ho p q f l bd, .string by_]⟩ h0 (fun v _ => v = eR 14) := by
  have hN := okN_of (rq_ok hr)
  have hk : LoopsOK 0 Tryz.prog 88 (hook1 13 (hookLS 0 88 [1, 2, 4, 8, 43, 44, 45] [0, 1] [1, 2, 4, 8] (fun vals h K => (fun (_ : List Value) (_ : AH) => False) vals h ∧ K (.exit 0) [.string by_, .pointer (some ⟨0, 0, none⟩), .pointer (some ⟨1, 0, none⟩), fz ⟨hX []⟩] (fwH (rqC a m ho p q f bd (fz ⟨hX l⟩)) zR)))) (codeOf Tryz.f18) := by
    refine loops_one oneFW ?_
    refine hook_ok (G := []) (L := noHooks) (f := 600) (sameX := [0, 1]) SFl_ok mixed (by decide) (loops_none _ _ _ _) ?_
    rintro vals h K ⟨hf, _⟩
    exact hf.elim
  refine FnOK.ttree SFw_ok mixed Tryz.func18 someFW hk (fw_eq a m ho p q f bd by_ l [] (fun _ _ => False) (fun v => v = eR 14)) ?_
  have e0 : (hX l).all shpH = true := shp_hv l
  have e1 : hlist (hX l) = l := hlist_hv l
  refine need_mk (by rw [e0, e1, hr]; rfl) (need_mk hu (need_mk (okV_mk hN (by omega) rfl) (need_mk (okPt_mk hs (by omega)) ?_)))
  rw [ptL_eq]
  refine need_mk (by rw [strV_all, List.length_map, Nat.ble_eq_true_of_le hl]; rfl) ?_
  rw [hv]; rfl
end Go.Proofs.YtfjfdemnnhfmoaaGreatDoor
