/-
  Records as lines: the records as they are drawn, by existence; the specifications of the law.
-/
import Derived.Test.YtfhhhfgbedddhaaGreatDoorRcG
namespace Go.Proofs.YtfhhhfgbedddhaaGreatDoor
open Go.Ev Go.RowKit RecLaw

theorem four {r : Int} {n : Nat} {p : Int → Prop} (h : ∀ k : Nat, k < n → p (k : Int)) (h0 : 0 ≤ r) (h1 : r < (n : Int)) : p r := by
  have := h r.toNat (by omega)
  rwa [Int.toNat_of_nonneg h0] at this
theorem rtL_in {r : Int} (h0 : 0 ≤ r) (h1 : r < 4) : (gS rtL r).data.toList ∈ allN := four (n := 4) (p := fun r => (gS rtL r).data.toList ∈ allN) (by decide +kernel) h0 h1
theorem clL_in {r : Int} (h0 : 0 ≤ r) (h1 : r < 3) : (gS clL r).data.toList ∈ allN := four (n := 3) (p := fun r => (gS clL r).data.toList ∈ allN) (by decide +kernel) h0 h1
theorem acL_in {r : Int} (h0 : 0 ≤ r) (h1 : r < 2) : (gS acL r).data.toList ∈ allN := four (n := 2) (p := fun r => (gS acL r).data.toList ∈ allN) (by decide +kernel) h0 h1
theorem inL_in {r : Int} (h0 : 0 ≤ r) (h1 : r < 2) : (gS inL r).data.toList ∈ allN := four (n := 2) (p := fun r => (gS inL r).data.toList ∈ allN) (by decide +kernel) h0 h1
theorem smL_in {r : Int} (h0 : 0 ≤ r) (h1 : r < 3) : (gS smL r).data.toList ∈ allN := four (n := 3) (p := fun r => (gS smL r).data.toList ∈ allN) (by decide +kernel) h0 h1
theorem re_ex (zs : List Int) {d : Int} (h0 : 0 ≤ d) (h1 : d ≤ 1000) (at_ : Int) : ∃ r : Rc, inN r ∧ ∀ K : List Value → Prop, K (rcC r) → reT (intsV zs) d at_ K := by
  have b : ∀ (e n : Int), 0 ≤ e → e ≤ 2000 → 1 ≤ n → n ≤ 1000 → 0 ≤ nextR (intsV zs) e n ∧ nextR (intsV zs) e n < n := fun e n q1 q2 q3 q4 => (nextR_spec zs n e q1 (by omega) q3 (by omega)).1
  have b0 := b d 4 (by omega) (by omega) (by omega) (by omega)
  have b1 := b (d + 1) 3 (by omega) (by omega) (by omega) (by omega)
  have b2 := b (d + 1 + 1) 2 (by omega) (by omega) (by omega) (by omega)
  have b3 := b (d + 1 + 1 + 1) 2 (by omega) (by omega) (by omega) (by omega)
  refine ⟨⟨at_, (gS rtL (nextR (intsV zs) d 4)).data.toList, (gS clL (nextR (intsV zs) (d + 1) 3)).data.toList, (gS acL (nextR (intsV zs) (d + 1 + 1) 2)).data.toList, (gS inL (nextR (intsV zs) (d + 1 + 1 + 1) 2)).data.toList,
    gI stL (nextR (intsV zs) (d + 1 + 1 + 1 + 1) 5), gI fdL (nextR (intsV zs) (d + 1 + 1 + 1 + 1 + 1) 3)⟩, ⟨rtL_in b0.1 b0.2, clL_in b1.1 b1.2, acL_in b2.1 b2.2, inL_in b3.1 b3.2⟩, fun K hK => ?_⟩
  simp only [rcC, strV, bl_self] at hK
  exact dr_mk (by omega) (by omega) (rg_mk (by omega) (by omega) rfl (by decide) (dr_mk (by omega) (by omega) (rg_mk (by omega) (by omega) rfl (by decide) (dr_mk (by omega) (by omega) (rg_mk (by omega) (by omega) rfl (by decide) (dr_mk (by omega) (by omega) (rg_mk (by omega) (by omega) rfl (by decide) (dr_mk (by omega) (by omega) (rg_mk (by omega) (by omega) rfl (by decide) (dr_mk (by omega) (by omega) (rg_mk (by omega) (by omega) rfl (by decide) hK)))))))))))
theorem de_mk {zs : List Int} {d : Int} (h0 : 0 ≤ d) (h1 : d ≤ 1000) {at_ : Int} {K : Int → Prop} (hK : K (IntKind.i64.wrap (at_ + gI dlL (nextR (intsV zs) d 4)))) : deT (intsV zs) d at_ K :=
  dr_mk h0 (by omega) (rg_mk h0 (by omega) rfl (by decide) hK)
theorem od_ex (zs : List Int) {d : Int} (h0 : 0 ≤ d) (h1 : d ≤ 1000) (L : List Value) (lo w : Int) : ∃ (v e : Int), d ≤ e ∧ e ≤ d + 2 ∧ ∀ K2 : Int → Int → Prop, K2 v e → odT (intsV zs) d L lo w K2 := by
  by_cases q : nextR (intsV zs) d 12 = 0
  · exact ⟨_, d + 1 + 1, by omega, by omega, fun K2 h => dr_mk h0 (by omega) (pick_t (by rw [q]; rfl) (dr_mk (by omega) (by omega) (rg_mk (by omega) (by omega) rfl (by decide) h)))⟩
  · exact ⟨_, d + 1 + 1, by omega, by omega, fun K2 h => dr_mk h0 (by omega) (pick_f (beq_eq_false_iff_ne.2 q) (dr_mk (by omega) (by omega) h))⟩
/-! A record in its place -/
theorem put1 (l : List Value) (o : Nat) (v : Value) : putAll ⟨l⟩ o [v] = ⟨l.set o v⟩ := by
  show (Array.mk l).setIfInBounds o v = _
  apply Array.ext'
  simp
theorem set_flat (m : Nat) (hm : m < 7) (v : Value) (r' : Rc) : ∀ (L : List Rc) (j : Nat), j < L.length → rcC r' = (rcC (L.getD j rc0)).set m v → (L.flatMap rcC).set (j * 7 + m) v = (L.set j r').flatMap rcC
  | [], j, hj, _ => by cases hj
  | r :: l, 0, _, h => by
    rw [List.flatMap_cons, List.set_cons_zero, List.flatMap_cons, List.set_append_left _ _ (by show 0 * 7 + m < 7; omega), Nat.zero_mul, Nat.zero_add]
    have h : rcC r' = (rcC r).set m v := h
    rw [h]
  | r :: l, j + 1, hj, h => by
    have ih := set_flat m hm v r' l j (by simpa using hj) h
    rw [List.flatMap_cons, List.set_cons_succ, List.flatMap_cons, List.set_append_right _ _ (by show 7 ≤ (j + 1) * 7 + m; omega)]
    rw [show (j + 1) * 7 + m - (rcC r).length = j * 7 + m by show (j + 1) * 7 + m - 7 = _; omega, ih]
theorem get_flat : ∀ (L : List Rc) (j : Nat), j < L.length → (L.flatMap rcC).getD (j * 7) (Value.tuple { toList := [] }) = .int .i64 (L.getD j rc0).at_
  | [], j, hj => by cases hj
  | r :: l, 0, _ => rfl
  | r :: l, j + 1, hj => by
    have ih := get_flat l j (by simpa using hj)
    rw [List.flatMap_cons]
    have e : ((rcC r ++ l.flatMap rcC)).getD ((j + 1) * 7) (Value.tuple { toList := [] }) = (l.flatMap rcC).getD (j * 7) (Value.tuple { toList := [] }) := by
      have : (j + 1) * 7 = j * 7 + 7 := by omega
      rw [this]
      rfl
    rw [e, ih]
    rfl
theorem put_rc {O : List Rc} {j m : Nat} {v : Value} {r r' : Rc} (hj : j < O.length) (hm : m < 7) (h : rcC r' = (rcC r).set m v) : putAll ⟨(O.set j r).flatMap rcC⟩ (j * 7 + m) [v] = ⟨(O.set j r').flatMap rcC⟩ := by
  rw [put1, set_flat m hm v r' (O.set j r) j (by rw [List.length_set]; exact hj) (by rw [h]; congr 2; simp [List.getD, hj]), List.set_set]
theorem ble7 {O : List Rc} {j m : Nat} {r : Rc} (hj : j < O.length) (hm : m < 7) : ((j * 7 + m + 1).ble (Array.mk ((O.set j r).flatMap rcC)).size && true && true) = true := by
  have : (j * 7 + m + 1).ble (Array.mk ((O.set j r).flatMap rcC)).size = true := by
    rw [Nat.ble_eq]
    show j * 7 + m + 1 ≤ ((O.set j r).flatMap rcC).length
    rw [rc_len, List.length_set]; omega
  rw [this]; rfl
theorem al_ex (zs : List Int) {O : List Rc} (hO : ∀ r ∈ O, inN r) {d : Int} (h0 : 0 ≤ d) (h1 : d ≤ 900) {j : Nat} (hj : j < O.length) :
    ∃ (O' : List Rc) (e : Int), (∀ r ∈ O', inN r) ∧ O'.length = O.length ∧ d ≤ e ∧ e ≤ d + 6 ∧ ∀ K : Array Value → Int → Prop, K ⟨O'.flatMap rcC⟩ e → alT (intsV zs) d (O.flatMap rcC) (j : Int) K := by
  obtain ⟨st, e1, a1, a2, a3⟩ := od_ex zs (d := d + 1 + 1) (by omega) (by omega) osL 100 500
  obtain ⟨fd, e2, c1, c2, c3⟩ := od_ex zs (d := e1) (by omega) (by omega) ofL 0 5
  have hb := (nextR_spec zs 3 (d + 1) (by omega) (by omega) (by omega) (by omega)).1
  have hs := smL_in hb.1 hb.2
  generalize hS : gS smL (nextR (intsV zs) (d + 1) 3) = S at hs
  have hr := hO _ (get_mem hj)
  have h00 : O = O.set j (O.getD j rc0) := by
    have : O.getD j rc0 = O[j] := by simp [List.getD, hj]
    rw [this, List.set_getElem_self]
  have hget := get_flat O j hj
  generalize hA : gI (atL (O.getD j rc0).at_) (nextR (intsV zs) d 4) = A
  have p1 := put_rc (O := O) (j := j) (m := 0) (v := .int .i64 A) (r := O.getD j rc0) (r' := { O.getD j rc0 with at_ := A }) hj (by decide) rfl
  have p2 := put_rc (O := O) (j := j) (m := 1) (v := .string S) (r := { O.getD j rc0 with at_ := A }) (r' := { O.getD j rc0 with at_ := A, rt := S.data.toList }) hj (by decide) (by
    show [_, Value.string (bl S.data.toList), _, _, _, _, _] = _
    rw [bl_self]; rfl)
  have p3 := put_rc (O := O) (j := j) (m := 5) (v := .int .i64 st) (r := { O.getD j rc0 with at_ := A, rt := S.data.toList }) (r' := { O.getD j rc0 with at_ := A, rt := S.data.toList, st := st }) hj (by decide) rfl
  have p4 := put_rc (O := O) (j := j) (m := 6) (v := .int .i64 fd) (r := { O.getD j rc0 with at_ := A, rt := S.data.toList, st := st }) (r' := { O.getD j rc0 with at_ := A, rt := S.data.toList, st := st, fd := fd }) hj (by decide) rfl
  rw [← h00] at p1
  refine ⟨O.set j { O.getD j rc0 with at_ := A, rt := S.data.toList, st := st, fd := fd }, e2, ?_, List.length_set, by omega, by omega, fun K hK => ?_⟩
  · intro r hr2
    rcases List.mem_or_eq_of_mem_set hr2 with q | q
    · exact hO r q
    · rw [q]
      exact ⟨hs, hr.2.1, hr.2.2.1, hr.2.2.2⟩
  · have e0 : 0 + (j : Int).toNat * 7 = j * 7 := Nat.zero_add _
    have hg : (Array.mk (O.flatMap rcC)).toList.getD (j * 7) (Value.tuple { toList := [] }) = .int .i64 (O.getD j rc0).at_ := hget
    unfold alT
    rw [e0, hg, hS, show toInt (Value.int IntKind.i64 (O.getD j rc0).at_) = (O.getD j rc0).at_ from rfl, hA]
    have q1 : (j * 7 + 0 + 1).ble (Array.mk (O.flatMap rcC)).size && true && true := by rw [h00]; exact ble7 (m := 0) hj (by decide)
    refine need_mk ?_ ⟨rfl, dr_mk h0 (by omega) (rg_mk h0 (by omega) rfl (by decide) (dr_mk (by omega) (by omega) (rg_mk (by omega) (by omega) rfl (by decide) (a3 _ (c3 _ ?_)))))⟩
    · rw [Nat.blt, Nat.ble_eq]
      show j * 7 + 1 ≤ (O.flatMap rcC).length
      rw [rc_len]; omega
    · have p1 : putAll ⟨O.flatMap rcC⟩ (j * 7) [.int .i64 A] = _ := p1
      rw [p1, p2, p3, p4]
      exact need_mk q1 (need_mk (ble7 (m := 1) hj (by decide)) (need_mk (ble7 (m := 5) hj (by decide)) (need_mk (ble7 (m := 6) hj (by decide)) hK)))
theorem tl_ex (zs : List Int) {O : List Rc} (hO : ∀ r ∈ O, inN r) (h5 : O.length ≤ 5) (h6 : 1 ≤ O.length) {d : Int} (h0 : 0 ≤ d) (h1 : d ≤ 800) :
    ∃ (O' : List Rc) (e : Int), (∀ r ∈ O', inN r) ∧ O'.length = O.length ∧ d ≤ e ∧ e ≤ d + 8 ∧ ∀ K : Array Value → Int → Prop, K ⟨O'.flatMap rcC⟩ e → tlT (intsV zs) d O.length (O.flatMap rcC) K := by
  by_cases q : nextR (intsV zs) d 15 = 0
  · have hb := (nextR_spec zs (O.length : Int) (d + 1) (by omega) (by omega) (by omega) (by omega)).1
    obtain ⟨O', e, x1, x2, x3, x4, x5⟩ := al_ex zs hO (d := d + 1 + 1) (by omega) (by omega) (j := (nextR (intsV zs) (d + 1) (O.length : Int)).toNat) (by omega)
    rw [Int.toNat_of_nonneg hb.1] at x5
    refine ⟨O', e, x1, x2, by omega, by omega, fun K hK => pick_t (decide_eq_true (by omega)) (dr_mk h0 (by omega) (pick_t (by rw [q]; rfl) (need_mk ?_ (need_mk (by simp [hb.1, hb.2]) (x5 K hK)))))⟩
    rw [allInts_intsV]; simp; omega
  · exact ⟨O, d + 1, hO, rfl, by omega, by omega, fun K hK => pick_t (decide_eq_true (by omega)) (dr_mk h0 (by omega) (pick_f (beq_eq_false_iff_ne.2 q) hK))⟩
def outG : List Rc → Value
  | [] => nilV
  | r :: l => .slice (some ⟨1, 0, none⟩) (r :: l).length (r :: l).length
def hpG (xs : Array Value) (d : Int) : List Rc → AH
  | [] => gN xs d
  | r :: l => gB xs d ((r :: l).flatMap rcC)
theorem gr_it (n : Nat) {vals : List Value} {h : AH} {K : AExit → List Value → AH → Prop} (hx : once 1 Tryz.prog SG1 [] noHooks 600 82 [0, 5, 6, 10, 11] [1] [0, 5] [1] (oneLoop (codeOf Tryz.f4) 4) vals h (fun v g => iter 1 Tryz.prog SG1 [] noHooks 600 82 [0, 5, 6, 10, 11] [1] [0, 5] [1] (oneLoop (codeOf Tryz.f4) 4) n v g K) K) : iter 1 Tryz.prog SG1 [] noHooks 600 82 [0, 5, 6, 10, 11] [1] [0, 5] [1] (oneLoop (codeOf Tryz.f4) 4) (n + 1) vals h K := hx
set_option maxRecDepth 20000 in
theorem gr_loop (zs : List Int) {n : Nat} (hn : n ≤ 5) : ∀ (r i : Nat) (O : List Rc) (at_ d : Int), i + r = n → O.length = i → (∀ q ∈ O, inN q) → 0 ≤ d → d ≤ 10 + 7 * i →
    ∃ (O' : List Rc) (d' : Int), (∀ q ∈ O', inN q) ∧ O'.length = n ∧ 0 ≤ d' ∧ d' ≤ 50 ∧ ∀ K : AExit → List Value → AH → Prop, K (.exit 0) [.pointer (some ⟨0, 0, none⟩), outG O'] (hpG (intsV zs) d' O') → iter 1 Tryz.prog SG1 [] noHooks 600 82 [0, 5, 6, 10, 11] [1] [0, 5] [1] (oneLoop (codeOf Tryz.f4) 4) (r + 1) (gv (outG O) at_ (n : Int) (i : Int)) (hpG (intsV zs) d O) K
  | 0, i, O, at_, d, h1, h2, h3, h4, h5 => by
    refine ⟨O, d, h3, by omega, h4, by omega, fun K hK => gr_it 0 ?_⟩
    cases O with
    | nil => exact (grN _ _ _ _ _ _ K).mpr (pick_f (decide_eq_false (by omega)) hK)
    | cons q o => exact (grB _ _ _ _ _ _ _ _ K).mpr (pick_f (decide_eq_false (by omega)) ⟨nnR (q :: o) _ _, hK⟩)
  | r + 1, i, O, at_, d, h1, h2, h3, h4, h5 => by
    obtain ⟨p, x1, x2⟩ := re_ex zs (d := d) h4 (by omega) at_
    obtain ⟨O', d', y1, y2, y3, y4, y5⟩ := gr_loop zs hn r (i + 1) (O ++ [p]) (IntKind.i64.wrap (at_ + gI dlL (nextR (intsV zs) (d + 1 + 1 + 1 + 1 + 1 + 1) 4))) (d + 1 + 1 + 1 + 1 + 1 + 1 + 1) (by omega) (by simp; omega) (fun q hq => by
      rcases List.mem_append.1 hq with c | c
      · exact h3 q c
      · rw [List.mem_singleton.1 c]; exact x1) (by omega) (by omega)
    refine ⟨O', d', y1, y2, y3, y4, fun K hK => gr_it (r + 1) ?_⟩
    have hK := y5 K hK
    cases O with
    | nil =>
      refine (grN _ _ _ _ _ _ K).mpr (pick_t (decide_eq_true (by omega)) (x2 _ (de_mk (by omega) (by omega) ?_)))
      have hn := nnR [p] 36 (0, 0)
      have e : ([p] : List Rc).flatMap rcC = rcC p := by simp
      rw [e] at hn
      refine ⟨hn, ?_⟩
      rw [wrap1 (by omega)]
      have hK : iter 1 Tryz.prog SG1 [] noHooks 600 82 [0, 5, 6, 10, 11] [1] [0, 5] [1] (oneLoop (codeOf Tryz.f4) 4) (r + 1) (gv (.slice (some ⟨1, 0, none⟩) 1 1) (IntKind.i64.wrap (at_ + gI dlL (nextR (intsV zs) (d + 1 + 1 + 1 + 1 + 1 + 1) 4))) (n : Int) ((i + 1 : Nat) : Int)) (gB (intsV zs) (d + 1 + 1 + 1 + 1 + 1 + 1 + 1) (([p] : List Rc).flatMap rcC)) K := hK
      rw [e] at hK
      exact hK
    | cons q o =>
      refine (grB _ _ _ _ _ _ _ _ K).mpr (pick_t (decide_eq_true (by omega)) (x2 _ (pick_f (ble_ss _) (need_mk (big88 (k := (q :: o).length) (by omega)) (need_mk (len7 (q :: o)) (de_mk (by omega) (by omega) ?_))))))
      rw [take7]
      have e : (q :: o).flatMap rcC ++ rcC p = ((q :: o) ++ [p]).flatMap rcC := by simp
      rw [e]
      refine ⟨nnR _ _ _, ?_⟩
      rw [wrap1 (by omega)]
      have e3 : outG ((q :: o) ++ [p]) = .slice (some ⟨1, 0, none⟩) ((q :: o).length + 1) ((q :: o).length + 1) := by
        show Value.slice (some ⟨1, 0, none⟩) ((q :: o) ++ [p]).length ((q :: o) ++ [p]).length = _
        rw [List.length_append]; rfl
      rw [e3] at hK
      exact hK
theorem oneGR : (loopAt (codeOf Tryz.f4) 4).length = 1 := by kernel_rfl
theorem someGR : Tryz.f4.body.isSome = true := by kernel_rfl
theorem freezeR {p : Nat} {P : Program} {h : AH} {b : Nat} {t : TypeId} {fr : Nat × Nat} (L : List Rc) {m : Nat} (hm : L.length = m) (hb : h.get b = some (.cells ⟨L.flatMap rcC⟩ t fr)) :
    Weak p P #[.slice (some ⟨b, 0, none⟩) m m] h #[fz ⟨L.map rcV⟩] (h.del b) := by
  have hlen := rc_len L
  have hch := chunk_rc L
  have hle : L.length * 7 ≤ (L.flatMap rcC).length := by omega
  have hg := chunk_get true 7 rfl L.length (L.flatMap rcC) (fun v hv => p1_rc v hv) hle
  rw [hch] at hg
  refine Weak.freeze (n := m) (cap := m) b 7 ⟨L.map rcV⟩ hb (fun v hv => p1_rc v hv) (by simpa using hm) (Nat.le_refl _) (by show m * 7 ≤ (L.flatMap rcC).length; omega) ?_ ?_ rfl ?_
  · intro i x hx
    exact (hg i x (by simpa using hx)).1
  · intro i j x v hx hv
    have := (hg i x (by simpa using hx)).2 j v hv
    simpa using this
  · intro i
    match i with
    | 0 => exact .inr ⟨rfl, rfl⟩
    | i + 1 => exact .inl (by simp)
/-- Records as they are drawn, and where the stream stands then. -/
def GrOK (xs : Array Value) (n : Int) (q : List Rc × Int) : Prop := Ln q.1 ∧
  FnOK 1 Tryz.prog 4 ⟨[.pointer (some ⟨0, 0, none⟩), .int .i64 n]⟩ (Ev.h1 (strm xs 1)) (fun u g => u = fz ⟨q.1.map rcV⟩ ∧ g.get 0 = some (strm xs q.2))
theorem gr_ex (zs : List Int) {n : Nat} (hn : n ≤ 5) : ∃ q, GrOK (intsV zs) (n : Int) q := by
  obtain ⟨O, d, a1, a2, a3, a4, a5⟩ := gr_loop zs hn n 0 [] (nextR (intsV zs) 1 20) 2 (by omega) rfl (by simp) (by omega) (by omega)
  by_cases hO : O = []
  · subst hO
    refine ⟨([], d), ⟨Nat.zero_le _, fun r hr => by cases hr⟩, ?_⟩
    have hsp : LSpec 1 Tryz.prog 82 (oneLoop (codeOf Tryz.f4) 4) (hookLS 1 82 [0, 5, 6, 10, 11] [1] [0, 5] (fun vals h K => (vals = gv nilV (nextR (intsV zs) 1 20) (n : Int) 0 ∧ h = gN (intsV zs) 2) ∧ K (.exit 0) [.pointer (some ⟨0, 0, none⟩), nilV] (gN (intsV zs) d))) := by
      refine hook_ok (G := []) (L := noHooks) (f := 600) (sameX := [1]) SG1_ok mixed (by decide) (loops_none _ _ _ _) ?_
      rintro vals h K ⟨⟨rfl, rfl⟩, hQ⟩
      exact ⟨_, a5 K hQ⟩
    have hF := FnOK.ttree SG1_ok mixed Tryz.func4 someGR (loops_one oneGR hsp) (grfN (intsV zs) d (n : Int) _ (fun v o o2 => v = nilV ∧ o = some (strm (intsV zs) d))) (dr_mk (by decide) (by decide) ⟨⟨rfl, rfl⟩, rfl, rfl⟩)
    refine FnOK.weak1 (hF.mono ?_)
    rintro v g ⟨rfl, h0⟩
    exact ⟨_, _, nil1, rfl, h0⟩
  · have h6 : 1 ≤ O.length := List.length_pos_iff.2 hO
    obtain ⟨O', e, c1, c2, c3, c4, c5⟩ := tl_ex zs a1 (by omega) h6 a3 (by omega)
    have hsl : outG O = .slice (some ⟨1, 0, none⟩) O.length O.length := by
      cases O with
      | nil => exact absurd rfl hO
      | cons q o => rfl
    have hhp : hpG (intsV zs) d O = gB (intsV zs) d (O.flatMap rcC) := by
      cases O with
      | nil => exact absurd rfl hO
      | cons q o => rfl
    refine ⟨(O', e), ⟨by show O'.length ≤ 5; omega, c1⟩, ?_⟩
    have hsp : LSpec 1 Tryz.prog 82 (oneLoop (codeOf Tryz.f4) 4) (thenLS (hookLS 1 82 [0, 5, 6, 10, 11] [1] [0, 5] (fun vals h K => (vals = gv nilV (nextR (intsV zs) 1 20) (n : Int) 0 ∧ h = gN (intsV zs) 2) ∧ K (.exit 0) [.pointer (some ⟨0, 0, none⟩), .slice (some ⟨1, 0, none⟩) O.length O.length] (gB (intsV zs) d (O.flatMap rcC)))) (markG 5)) := by
      refine thenLS_ok (hook_ok (G := []) (L := noHooks) (f := 600) (sameX := [1]) SG1_ok mixed (by decide) (loops_none _ _ _ _) ?_) (markG_ok _ _ _ _)
      rintro vals h K ⟨⟨rfl, rfl⟩, hQ⟩
      exact ⟨_, a5 K (by rw [hsl, hhp]; exact hQ)⟩
    have hF := FnOK.ttree SG1_ok mixed Tryz.func4 someGR (loops_one oneGR hsp) (grfB (intsV zs) d (n : Int) (O.flatMap rcC) O.length _ (fun v o o2 => v = .slice (some ⟨1, 0, none⟩) O.length O.length ∧ o = some (strm (intsV zs) e) ∧ o2 = some (.cells ⟨O'.flatMap rcC⟩ 36 (1, 1)))) (dr_mk (by decide) (by decide) ⟨⟨rfl, rfl⟩, c5 _ ⟨rfl, rfl, rfl⟩⟩)
    refine FnOK.weak1 (hF.mono ?_)
    rintro v g ⟨rfl, h0, h1⟩
    exact ⟨_, _, freezeR O' c2 h1, rfl, (del_ne (by decide)).trans h0⟩
open Classical in
noncomputable def grC (xs : Array Value) (n : Int) : List Rc × Int := if h : ∃ q, GrOK xs n q then h.choose else ([], 0)
theorem grC_ok (zs : List Int) {n : Int} (h0 : 0 ≤ n) (h5 : n ≤ 5) : GrOK (intsV zs) n (grC (intsV zs) n) := by
  have h := gr_ex zs (n := n.toNat) (by omega)
  rw [Int.toNat_of_nonneg h0] at h
  unfold grC
  rw [dif_pos h]
  exact h.choose_spec
noncomputable def spGr (f : FuncId) (args : Array Value) (h : AH) : Option (Bool × Value × AH) :=
  cond (Nat.beq f 4) (match args with
    | ⟨[.pointer (some ⟨b, 0, none⟩), .int .i64 n]⟩ => match h.get b with
      | some (.cells ⟨[.func (.yield 0) xs ⟨[]⟩, .int .i64 at_]⟩ t (0, 0)) =>
        some (Nat.beq t 25 && decide (at_ = 1) && decide (0 ≤ n) && decide (n ≤ 5) && allInts xs, fz ⟨(grC xs n).1.map rcV⟩, h.set b (.cells ⟨[fz xs, .int .i64 (grC xs n).2]⟩ 25 (0, 0)))
      | _ => none
    | _ => none) none
theorem spGr_ok : SpOK spGr := by
  intro f args h v h' hs
  unfold spGr at hs
  obtain ⟨hf, hs2⟩ := cond_some hs
  clear hs
  have := Nat.eq_of_beq_eq_true hf
  subst this
  split at hs2
  · split at hs2
    · rename_i b n _ xs at_ t hg
      injection hs2 with hs
      injection hs with hb hs
      injection hs with hv hh
      subst hv hh
      simp only [Bool.and_eq_true, decide_eq_true_eq] at hb
      obtain ⟨⟨⟨⟨b1, rfl⟩, b2⟩, b3⟩, b4⟩ := hb
      have b1 := Nat.eq_of_beq_eq_true b1
      subst b1
      obtain ⟨zs, rfl⟩ := intsV_of_all b4
      refine ⟨?_, Nat.le_refl _⟩
      exact FnOK.ref (cs := ⟨[fz (intsV zs), .int .i64 1]⟩) (cs' := ⟨[fz (intsV zs), .int .i64 (grC (intsV zs) n).2]⟩) (args := [.int .i64 n]) (grC_ok zs b2 b3).2 rfl (by simp [p1, fz]) (by simp [p1, fz]) rfl hg
    · cases hs2
  · cases hs2
/-! The law -/
noncomputable def SLw : SC := ⟨idn, spOr spReady (spOr spGr (spOr spTx (spOr spRd (spOr spEq (spOr spRf (spNext [])))))), true, true⟩
theorem SLw_ok : SLw.cfg.OK Tryz.prog := (spReady_ok.or (spGr_ok.or (spTx_ok.or (spRd_ok.or (spEq_ok.or (spRf_ok.or (spNext_ok []))))))).cfg
theorem someLW : Tryz.f3.body.isSome = true := by kernel_rfl
noncomputable def lwN (xs : Array Value) : Int := IntKind.i64.wrap (0 + nextR xs 0 6)
noncomputable def lwV (xs : Array Value) : List Value := (grC xs (lwN xs)).1.map rcV
theorem lw (xs : Array Value) (Q : Value → Prop) : ffn Tryz.prog SLw [] 600 [] Tryz.f3 [fz xs] h0 (fun v _ => Q v) =
    bif allInts xs then bif decide (0 ≤ lwN xs) && decide (lwN xs ≤ 5) && allInts xs then bif okV (lwV xs) then bif ckC (lwV xs) == 0 then
      bif okRt (txS (lwV xs)) then bif okEq ((txC (txS (lwV xs))).map rcV) (lwV xs) then Q (.bool true) else False else False
    else bif okV (lwV xs) then bif rfC (lwV xs) != 0 then Q (.bool true) else Q (.bool false) else False else False else False else False := by kernel_rfl
end Go.Proofs.YtfhhhfgbedddhaaGreatDoor
