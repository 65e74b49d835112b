/-
  Queries: the law, the plain side.
-/
import Derived.Test.YtnaeehnkabojdaaGreatDoorQuL2
namespace Go.Proofs.YtnaeehnkabojdaaGreatDoor
open Go.Ev Go.RowKit RecLaw PathLaw QueryLaw

theorem gh4 (k : Nat) (e1 e2 : Bool) : LoopsOK 0 Tryz.prog 80 (LP k e1 e2) (codeOf Tryz.f3) := loops_one one4 (thenLS_ok (hook_ok (G := []) (L := noHooks) (f := 3000) (sameX := []) (SLw_ok k e1 e2) mixed (by decide) (loops_none _ _ _ _) fun _ _ _ hi => ⟨6, hi⟩) (freezeG_ok 0 Tryz.prog 80 true 2 [4]))
theorem hs_map (r : Rq) (h : noE r = 0) : (noR r).hs.isEmpty = r.hs.isEmpty := by
  unfold noR
  rw [if_pos h]
  show (r.hs.map _).isEmpty = _
  cases r.hs <;> rfl
theorem hs_err (r : Rq) (h : noE r ≠ 0) : (noR r).hs = [] := by
  unfold noR
  rw [if_neg h]
  rfl
theorem lwN_ok {r : Rq} (ok : OkR r) {e1 e2 : Bool} (h1 : r.hs.isEmpty = e1) (h2 : (noR r).hs.isEmpty = e2) {T F : Prop} (hT : T) : lwN e1 e2 r T F := by
  have c1 : rqT e1 r = rqV r := by rw [← h1]; exact rqT_eq r
  have c2 : rqT e2 (noR r) = rqV (noR r) := by rw [← h2]; exact rqT_eq _
  have hb : ∀ b : Bool, cond b b (!b) = true := fun b => by cases b <;> rfl
  unfold lwN
  rw [c1, unR_rq, c2, unR_rq]
  refine need_mk (by rw [okRq_iff.2 ⟨r, ok, rfl⟩, h2, hb]; rfl) ?_
  by_cases hn : noE r = 0
  · obtain ⟨k1, k2, k3, k4⟩ := nrm_law ok hn
    refine pick_f (by rw [hn]; rfl) ?_
    rw [k4, c2]
    have hok := okRq_iff.2 ⟨_, k1, rfl⟩
    have h5 : (noR r).hs.length ≤ 5 := by
      have a := k1.n
      obtain ⟨_, _, _, _, _, _, c7, _⟩ := crE_iff.1 k2
      have := (chE_iff.1 c7).1
      omega
    refine need_mk (by rw [hok, h2, hb]; rfl) (pick_t (by rw [k3]; rfl) (need_mk (okSr_iff.2 ⟨rfl, _, h5, rfl⟩) (need_mk hok (pick_t (by rw [k2]; rfl) hT))))
  · exact pick_t (by simpa using hn) hT
theorem lwR_ok (zs : List Int) {d : Int} (h0 : 0 ≤ d) (h1 : d ≤ 15) {e1 e2 : Bool} (he1 : (rrC 11 180 (intsV zs) d).1.hs.isEmpty = e1) (he2 : (noR (rrC 11 180 (intsV zs) d).1).hs.isEmpty = e2) {T F : Prop} (hT : T) : lwR (intsV zs) e1 e2 d T F := by
  obtain ⟨ok, _, _, _⟩ := rrC_ok rq_ex zs h0 h1
  refine need_mk ?_ (lwN_ok ok he1 he2 hT)
  rw [allInts_intsV, he1]
  cases e1 <;> simp [h0, h1]
def nvOk (s : ByteArray) : Prop := s.size ≤ 10
theorem na_all : ∀ v ∈ naL, nvOk (toStr v) ∧ (toStr v).data.toList ≠ [] := by
  intro v hv
  simp only [naL, List.mem_cons, List.not_mem_nil, or_false] at hv
  rcases hv with rfl | rfl | rfl | rfl | rfl | rfl
  · exact ⟨Nat.le_of_ble_eq_true rfl, by decide⟩
  · exact ⟨Nat.le_of_ble_eq_true rfl, by decide⟩
  · exact ⟨Nat.le_of_ble_eq_true rfl, by decide⟩
  · exact ⟨Nat.le_of_ble_eq_true rfl, by decide⟩
  · exact ⟨Nat.le_of_ble_eq_true rfl, by decide⟩
  · exact ⟨Nat.le_of_ble_eq_true rfl, by decide⟩
theorem vv_all : ∀ v ∈ vvL, nvOk (toStr v) := by
  intro v hv
  simp only [vvL, List.mem_cons, List.not_mem_nil, or_false] at hv
  rcases hv with rfl | rfl | rfl | rfl | rfl
  · exact Nat.le_of_ble_eq_true rfl
  · exact Nat.le_of_ble_eq_true rfl
  · exact Nat.le_of_ble_eq_true rfl
  · exact Nat.le_of_ble_eq_true rfl
  · exact Nat.le_of_ble_eq_true rfl
/-- Pairs as they are drawn. -/
def dOk (p : PB) : Prop := (nvOk p.1 ∧ p.1.data.toList ≠ []) ∧ nvOk p.2
theorem d_len {p : PB} (h : dOk p) : (unB p).1.length ≤ 10 ∧ (unB p).2.length ≤ 10 := by
  obtain ⟨⟨a, _⟩, b⟩ := h
  unfold nvOk at a b
  exact ⟨by show p.1.data.toList.length ≤ 10; rw [len_size]; exact a, by show p.2.data.toList.length ≤ 10; rw [len_size]; exact b⟩
theorem un_ok {L : List PB} (h : ∀ p ∈ L, dOk p) : ∀ p ∈ L.map unB, PrOk p := by
  intro p hp
  obtain ⟨x, hx, rfl⟩ := List.mem_map.1 hp
  obtain ⟨a, b⟩ := d_len (h x hx)
  exact ⟨by omega, by omega, fun e => (h x hx).1.2 (congrArg Prod.fst e)⟩
theorem qt_short : ∀ (L : List (Bs × Bs)), (∀ p ∈ L, p.1.length ≤ 10 ∧ p.2.length ≤ 10) → (qt L).length ≤ L.length * 62
  | [], _ => Nat.zero_le _
  | p :: L, h => by
    have ih := qt_short L fun x hx => h x (by simp [hx])
    obtain ⟨h1, h2⟩ := h p (by simp)
    have q1 := qw_len p.1
    have q2 := qw_len p.2
    have hw : (wr p).length ≤ 61 := by unfold wr; simp; omega
    cases L with
    | nil =>
      have : qt [p] = wr p := by rw [qt_cons, List.map_nil, body_nil]
      rw [this, List.length_singleton]
      omega
    | cons q l =>
      have e : qt (p :: q :: l) = wr p ++ 38 :: qt (q :: l) := by
        rw [qt_cons, qt_cons, List.map_cons, body_cons]
      rw [e, List.length_append, List.length_cons]
      simp only [List.length_cons] at ih ⊢
      omega
theorem lwP_ok {L : List PB} (h : ∀ p ∈ L, dOk p) (h1 : L ≠ []) (h4 : L.length ≤ 4) {X F : Prop} (hX : X) : lwP L X F := by
  have e1 : (L.map pvV).map unP = L.map unB := by rw [← pv_map, unP_map]
  have hl : (L.map unB).length = L.length := List.length_map _
  have hs := qt_short (L.map unB) (fun p hp => by obtain ⟨x, hx, rfl⟩ := List.mem_map.1 hp; exact d_len (h x hx))
  have hs1 : (qt (L.map unB)).length ≤ 1000 := by omega
  have eS : qtS (L.map unB) = qt (L.map unB) := by unfold qtS; rw [if_neg (by omega)]
  have eE : qtE (L.map unB) = 0 := by unfold qtE; rw [if_neg (by omega)]
  obtain ⟨p1, p2⟩ := pq_of (s := qt (L.map unB)) (okQ_iff.2 ⟨hs1, qt_ink _⟩) (qt_back _) (by omega)
  have hne : L.map unB ≠ [] := fun q => h1 (List.map_eq_nil_iff.1 q)
  unfold lwP
  rw [e1, eS, eE, bl_list, p2]
  refine need_mk (okPs_iff.2 ⟨L.map unB, by omega, un_ok h, (pv_map L).symm⟩) (need_mk ?_ (pick_f rfl (need_mk (okEq_iff.2 ⟨pv_map L, L.map unB, hne, by omega, rfl⟩) hX)))
  rw [LE2_bl (by omega)]
  cases hx : L.map unB with
  | nil => exact absurd hx hne
  | cons a l => rfl
theorem lwD_ok (zs : List Int) {F : Int → List PB → Prop} : ∀ (n : Nat) (d : Int) (L : List PB), 0 ≤ d → d + 2 * n ≤ 1000 → (∀ p ∈ L, dOk p) → (∀ L' : List PB, (∀ p ∈ L', dOk p) → L'.length = L.length + n → F (d + 2 * n) L') → lwD (intsV zs) F n d L
  | 0, d, L, h0, h1, h2, hF => by
    have := hF L h2 rfl
    show F d L
    simpa using this
  | n + 1, d, L, h0, h1, h2, hF => by
    have b1 := (nextR_spec zs 6 d h0 (by omega) (by omega) (by omega)).1
    have b2 := (nextR_spec zs 5 (d + 1) (by omega) (by omega) (by omega) (by omega)).1
    refine dr_mk h0 (by omega) (rg_mk h0 (by omega) rfl (by decide) (dr_mk (by omega) (by omega) (rg_mk (by omega) (by omega) rfl (by decide) (lwD_ok zs n (d + 1 + 1) _ (by omega) (by omega) ?_ ?_))))
    · intro p hp
      rcases List.mem_append.1 hp with q | q
      · exact h2 p q
      · rw [List.mem_singleton.1 q]
        exact ⟨gS_in (m := 6) (P := fun s => nvOk s ∧ s.data.toList ≠ []) rfl na_all b1.1 b1.2, gS_in (m := 5) rfl vv_all b2.1 b2.2⟩
    · intro L' h3 h4
      rw [show d + 1 + 1 + 2 * (n : Int) = d + 2 * ((n + 1 : Nat) : Int) by omega]
      exact hF L' h3 (by rw [h4, List.length_append, List.length_singleton]; omega)
end Go.Proofs.YtnaeehnkabojdaaGreatDoor
