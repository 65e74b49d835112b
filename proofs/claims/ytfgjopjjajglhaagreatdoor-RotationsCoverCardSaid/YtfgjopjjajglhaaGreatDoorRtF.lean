/-
  Signers in a row: 'Uncovered' as a specification; the specifications of the law.
-/
import Derived.Test.YtfgjopjjajglhaaGreatDoorRtE
namespace Go.Proofs.YtfgjopjjajglhaaGreatDoor
open Go.Ev Go.RowKit RotLaw

theorem int_ord : ScopeLaw.Ord (fun x y : Int => x ≤ y) := ⟨fun _ _ _ => Int.le_trans, fun _ _ => Int.le_antisymm⟩
theorem srt_pw (Z : List Int) : (srt Z).Pairwise (fun x y => x ≤ y) := by
  have := List.pairwise_mergeSort (le := fun x y : Int => decide (x ≤ y)) (by intro a b c h1 h2; simp at h1 h2 ⊢; omega) (by intro a b; simp; omega) Z
  exact this.imp (by intro a b h; simpa using h)
theorem srt_mem (Z : List Int) (x : Int) : x ∈ srt Z ↔ x ∈ Z := by unfold srt; exact List.mem_mergeSort
/-- The moments in order, each once. -/
def Wl (Z : List Int) : List Int := Go.Lib.compact (srt Z)
theorem Wl_mem (Z : List Int) (x : Int) : x ∈ Wl Z ↔ x ∈ Z := by unfold Wl; rw [ScopeLaw.cut_mem int_ord (srt_pw Z), srt_mem]
theorem Wl_len (Z : List Int) : (Wl Z).length ≤ Z.length := by
  have := cut_le (srt Z)
  rw [srt_len] at this
  exact this
theorem Wl_lt {Z : List Int} {T : Int} (h : okZ T Z) {i : Nat} (hi : i < (Wl Z).length - 1) : 0 ≤ (Wl Z).getD i 0 ∧ (Wl Z).getD i 0 < T := by
  have h1 : i < (Wl Z).length := by omega
  have h2 : i + 1 < (Wl Z).length := by omega
  have e1 : (Wl Z).getD i 0 = (Wl Z)[i] := by simp [List.getD, h1]
  have hp := ScopeLaw.cut_rise int_ord (srt_pw Z)
  have hlt := List.pairwise_iff_getElem.1 hp i (i + 1) h1 h2 (by omega)
  have m1 := h.1 _ ((Wl_mem Z _).1 (List.getElem_mem h1))
  have m2 := h.1 _ ((Wl_mem Z _).1 (List.getElem_mem h2))
  rw [e1]
  have hle : (Wl Z)[i] ≤ (Wl Z)[i + 1] := hlt.1
  have hne : ¬ (Wl Z)[i] = (Wl Z)[i + 1] := hlt.2
  omega
theorem Wl_two {Z : List Int} {T : Int} (h : okZ T Z) (hT : 1 ≤ T) : 2 ≤ (Wl Z).length := by
  have h0 := (Wl_mem Z 0).2 h.2.1
  have h1 := (Wl_mem Z T).2 h.2.2
  cases hw : Wl Z with
  | nil => rw [hw] at h0; cases h0
  | cons a l => cases l with
    | nil =>
      rw [hw] at h0 h1
      have q0 := List.mem_singleton.1 h0
      have q1 := List.mem_singleton.1 h1
      omega
    | cons b l => simp
theorem find_map (L : List Sg) (t : Int) : findW (L.map svW) t = (findS L t).map svW := by
  unfold findW findS
  rw [← List.map_reverse, List.find?_map]
  rfl
theorem gV_map (life : Int) (A : List Int) : gV life A = ((sgs life 0 A).map svW).map swV := by
  unfold gV
  rw [List.map_map]
  rfl
theorem lastI_le : ∀ (r : List Int) (a : Int), gaps (a :: r) → a ≤ lastI (a :: r) ∧ lastI (a :: r) ≤ a + 100 * (r.length : Int)
  | [], a, _ => ⟨Int.le_refl _, by simp [lastI]⟩
  | b :: r, a, h => by
    obtain ⟨h1, h2, h3⟩ := h
    obtain ⟨q1, q2⟩ := lastI_le r b h3
    have e : lastI (a :: b :: r) = lastI (b :: r) := rfl
    rw [e, List.length_cons]
    omega
theorem last_in {life : Int} {A : List Int} (h : Good life A) : 0 ≤ lastI A ∧ lastI A ≤ 300 := by
  obtain ⟨⟨⟨r, rfl⟩, h4, hg⟩, _, _⟩ := h
  have := lastI_le r 0 hg
  simp at h4
  omega
theorem sa_good {life t : Int} {A : List Int} (h : Good life A) (h0 : 0 ≤ t) (h1 : t < lastI A + 100) : okSa (gV life A) t = true ∧ ∃ s ∈ sgs life 0 A, findS (sgs life 0 A) t = some s ∧ saW (gV life A) t = svW s ∧ t + life ≤ s.un := by
  obtain ⟨s, a1, a2, a3⟩ := cover_ok (life := life) h.1 h0 h1
  have hf : findW ((sgs life 0 A).map svW) t = some (svW s) := by rw [find_map, a1]; rfl
  have hl : ((sgs life 0 A).map svW).length ≤ 1000 := by
    rw [List.length_map, sgs_len]
    have := h.1.2.1
    omega
  refine ⟨okSa_iff.2 ⟨_, gV_map life A, hl, by rw [hf]; rfl⟩, s, a2, a1, ?_, a3⟩
  unfold saW
  rw [gV_map, unW_map, hf]
  rfl
set_option maxRecDepth 20000 in
theorem un_fn {life : Int} {A : List Int} (h : Good life A) : FnOK 0 Tryz.prog 7 ⟨[fz ⟨gV life A⟩, .agg ⟨[.int .i64 0, .int .i64 (lastI A + 100)]⟩, .int .i64 life]⟩ h0 (fun v _ => v = .tuple ⟨[nilV, .int .i64 0]⟩) := by
  obtain ⟨l1, l2⟩ := last_in h
  have hlen : (sgs life 0 A).length ≤ 4 := by rw [sgs_len]; exact h.1.2.1
  obtain ⟨Z, z1, z2, z3⟩ := o_loop hlen life (lastI A + 100) (sgs life 0 A).length 0 [0, lastI A + 100] (by omega) ⟨fun z hz => by
    simp only [List.mem_cons, List.not_mem_nil, or_false] at hz
    rcases hz with rfl | rfl <;> omega, by simp, by simp⟩ (by simp)
  have hW : ∀ i, i < (Wl Z).length - 1 → okSa (gV life A) ((Wl Z).getD i 0) = true ∧ (Wl Z).getD i 0 + life ≤ (saW (gV life A) ((Wl Z).getD i 0)).un ∧ 0 ≤ (Wl Z).getD i 0 ∧ (Wl Z).getD i 0 ≤ 1000 := by
    intro i hi
    obtain ⟨a1, a2⟩ := Wl_lt z1 hi
    obtain ⟨b1, s, _, _, b3, b4⟩ := sa_good h a1 a2
    exact ⟨b1, by rw [b3]; exact b4, a1, by omega⟩
  have hwl := Wl_len Z
  have hw2 := Wl_two z1 (by omega)
  have hsp8 : LSpec 0 Tryz.prog 152 (oneLoop (codeOf Tryz.f7) 8) (hookLS 0 152 [0, 2, 4, 9, 43, 44, 45] [1] [0, 2, 9] (fun vals h => fun K => (vals = ov (gV life A) life 2 ((sgs life 0 A).length : Int) 0 ∧ h = oH (lastI A + 100) [.int .i64 0, .int .i64 (lastI A + 100)]) ∧ K (.exit 0) [fz ⟨gV life A⟩, .int .i64 life, .slice (some ⟨0, 0, none⟩) Z.length Z.length] (aH (Z.map iV)))) := by
    refine hookE_ok (sameX := [0]) mixed (by decide) ?_
    rintro vals h K ⟨⟨rfl, rfl⟩, hK⟩
    exact ⟨_, z3 K hK⟩
  have hsp21 : LSpec 0 Tryz.prog 152 (oneLoop (codeOf Tryz.f7) 21) (hookLS 0 152 [0, 2, 9, 14, 15] [] [14] (fun vals h K => (vals = uv (gV life A) life (Wl Z) nilV 0 ∧ h = h0) ∧ K (.exit 4) [nilV] h0)) := by
    refine hook_ok (G := []) (L := noHooks) (f := 600) (sameX := []) SU2_ok mixed (by decide) (loops_none _ _ _ _) ?_
    rintro vals g K ⟨⟨rfl, rfl⟩, hK⟩
    exact ⟨_, u_loop h.2.1 h.2.2 hw2 (by omega) hW K hK ((Wl Z).length - 1) 0 (by omega)⟩
  refine FnOK.ttree SU3_ok mixed Tryz.func7 someUN (loops_or (ghosts_one ridsUN (freezeG_ok _ _ _ _ _ _)) (loops_or (loops_one one8 hsp8) (loops_one one21 hsp21))) (unf (gV life A) life (lastI A + 100) (Z.map iV) Z.length _ _ (fun v => v = .tuple ⟨[nilV, .int .i64 0]⟩)) ?_
  have e1 : S1 (Z.map iV) = (srt Z).map iV := by unfold S1; rw [toI_map]
  have e2 : qW (Z.map iV) = (Wl Z).length := by unfold qW; rw [e1, toI_map]; rfl
  have e3 : S2 (Z.map iV) = (Wl Z).map iV ++ (List.replicate ((srt Z).length - (Go.Lib.compact (srt Z)).length) 0).map iV := by unfold S2; rw [e1, toI_map, ← List.map_append]; rfl
  have e4 : chunk false 1 (Wl Z).length (S2 (Z.map iV)) = (Wl Z).map iV := by rw [e3, chunk_i]
  have e5 : (S2 (Z.map iV)).length = Z.length := by unfold S2; rw [List.length_map, cut_len, e1, toI_map, srt_len]
  have hp2 : (S2 (Z.map iV)).all p1 = true := p1_map _
  have h2 := h.2
  have hsz : ((Array.mk (gV life A)).size : Int) = ((sgs life 0 A).length : Int) := by simp [gV]
  refine need_mk (okG_iff.2 ⟨life, A, h, rfl⟩) (pick_f (decide_eq_false (by omega)) (pick_f (decide_eq_false (by omega)) (pick_f (decide_eq_false (by omega)) (pick_f (decide_eq_false (by omega)) ⟨nnI [0, lastI A + 100] _ _, ⟨by rw [hsz], rfl⟩, ?_⟩))))
  refine need_mk ?_ (need_mk ?_ (need_mk ?_ ?_))
  · rw [allI_map, List.length_map, Nat.beq_refl, Nat.ble_eq_true_of_le (by omega)]; rfl
  · rw [e1, allI_map, List.length_map, srt_len, Nat.beq_refl, Nat.ble_eq_true_of_le (by omega), Nat.ble_eq_true_of_le (Nat.le_refl _)]; rfl
  · rw [e2, hp2, e5, Nat.beq_refl, Nat.beq_refl, Nat.ble_eq_true_of_le (by omega), Nat.ble_eq_true_of_le (by omega)]; rfl
  · rw [e2, e4]
    exact ⟨⟨rfl, rfl⟩, rfl⟩
open Classical in
noncomputable def okUn (vs : List Value) (f t life : Int) : Bool := @decide (∃ A, Good life A ∧ vs = gV life A ∧ f = 0 ∧ t = lastI A + 100) (Classical.propDecidable _)
theorem okUn_iff {vs : List Value} {f t life : Int} : okUn vs f t life = true ↔ ∃ A, Good life A ∧ vs = gV life A ∧ f = 0 ∧ t = lastI A + 100 := by unfold okUn; exact @decide_eq_true_iff _ (Classical.propDecidable _)
noncomputable def spUn (fn : FuncId) (args : Array Value) (h : AH) : Option (Bool × Value × AH) :=
  cond (Nat.beq fn 7) (match args with
    | ⟨[.func (.yield 0) ⟨vs⟩ ⟨[]⟩, .agg ⟨[.int .i64 f, .int .i64 t]⟩, .int .i64 life]⟩ => some (okUn vs f t life, .tuple ⟨[nilV, .int .i64 0]⟩, h)
    | _ => none) none
theorem spUn_ok : SpOK spUn := by
  intro f args h v h' hs
  unfold spUn at hs
  obtain ⟨hf, hs2⟩ := cond_some hs
  clear hs
  have := Nat.eq_of_beq_eq_true hf
  subst this
  split at hs2
  · injection hs2 with hs
    injection hs with hb hs
    injection hs with hv hh
    subst hv hh
    rename_i vs f t life
    obtain ⟨A, hA, rfl, rfl, rfl⟩ := okUn_iff.1 hb
    exact ⟨FnOK.pure (un_fn hA) rfl rfl h, Nat.le_refl _⟩
  · cases hs2

/-! Range from 1 to 4, told beforehand -/
theorem someRG : Tryz.f4.body.isSome = true := by kernel_rfl
theorem rgf (xs : Array Value) (d : Int) (Q : Value → Option Obj → Prop) : ffn Tryz.prog SI [] 600 [] Tryz.f4 [.pointer (some ⟨0, 0, none⟩), .int .i64 1, .int .i64 4] (Ev.h1 (strm xs d)) (fun v h => Q v (h.get 0)) =
    bif decide (0 ≤ d) && decide (d ≤ 1000000) && true && true && true && allInts xs then Q (.int .i64 (IntKind.i64.wrap (1 + nextR xs d 4))) (some (strm xs (d + 1))) else False := by kernel_rfl
noncomputable def spRg (r : Int) (f : FuncId) (args : Array Value) (h : AH) : Option (Bool × Value × AH) :=
  cond (Nat.beq f 4) (match args with
    | ⟨[.pointer (some ⟨b, 0, none⟩), .int .i64 lo, .int .i64 hi]⟩ => cond (decide (lo = 1) && decide (hi = 4)) (match h.get b with
      | some (.cells ⟨[.func (.yield 0) xs ⟨[]⟩, .int .i64 at_]⟩ t (0, 0)) =>
        some (Nat.beq t 25 && decide (0 ≤ at_) && decide (at_ ≤ 1000000) && allInts xs && decide (1 + nextR xs at_ 4 = r), .int .i64 r, h.set b (.cells ⟨[fz xs, .int .i64 (at_ + 1)]⟩ 25 (0, 0)))
      | _ => none) none
    | _ => none) none
theorem spRg_ok (r : Int) : SpOK (spRg r) := by
  intro f args h v h' hs
  unfold spRg at hs
  obtain ⟨hf, hs2⟩ := cond_some hs
  clear hs
  have := Nat.eq_of_beq_eq_true hf
  subst this
  split at hs2
  · rename_i b lo hi
    obtain ⟨hq, hs2⟩ := cond_some hs2
    simp only [Bool.and_eq_true, decide_eq_true_eq] at hq
    obtain ⟨rfl, rfl⟩ := hq
    split at hs2
    · rename_i xs at_ t hg
      injection hs2 with hs
      injection hs with hb hs
      injection hs with hv hh
      subst hv hh
      simp only [Bool.and_eq_true, decide_eq_true_eq] at hb
      obtain ⟨⟨⟨⟨b1, b2⟩, b3⟩, b4⟩, b5⟩ := hb
      have b1 := Nat.eq_of_beq_eq_true b1
      subst b1
      obtain ⟨zs, rfl⟩ := intsV_of_all b4
      have hb := (nextR_spec zs 4 at_ b2 b3 (by omega) (by omega)).1
      have hF : FnOK 1 Tryz.prog 4 ⟨[.pointer (some ⟨0, 0, none⟩), .int .i64 1, .int .i64 4]⟩ (Ev.h1 (strm (intsV zs) at_)) (fun u g => u = .int .i64 r ∧ g.get 0 = some (strm (intsV zs) (at_ + 1))) := by
        refine FnOK.ftree SI_ok mixed Tryz.func4 someRG (rgf (intsV zs) at_ (fun u o => u = .int .i64 r ∧ o = some (strm (intsV zs) (at_ + 1)))) ?_
        refine need_mk (by rw [b4]; simp; omega) ⟨?_, rfl⟩
        rw [wrap_id _ (by omega) (by omega), b5]
      refine ⟨?_, Nat.le_refl _⟩
      exact FnOK.ref (cs := ⟨[fz (intsV zs), .int .i64 at_]⟩) (cs' := ⟨[fz (intsV zs), .int .i64 (at_ + 1)]⟩) (args := [.int .i64 1, .int .i64 4]) hF rfl (by simp [p1, fz]) (by simp [p1, fz]) rfl hg
    · cases hs2
  · cases hs2
noncomputable def SLw (r : Int) : SC := ⟨idn, spOr (spRg r) (spOr spReady (spOr spRo (spOr spSa (spOr spCs (spOr spUn (spNext [])))))), true, true⟩
theorem SLw_ok (r : Int) : (SLw r).cfg.OK Tryz.prog := ((spRg_ok r).or (spReady_ok.or (spRo_ok.or (spSa_ok.or (spCs_ok.or (spUn_ok.or (spNext_ok []))))))).cfg
end Go.Proofs.YtfgjopjjajglhaaGreatDoor
