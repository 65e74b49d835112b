/-
  Paths: what was joined is taken apart.
-/
import Derived.Test.YtfjfdemnnhfmoaaGreatDoorPsE
namespace Go.Proofs.YtfjfdemnnhfmoaaGreatDoor
open Go.Ev Go.RowKit RecLaw PathLaw

noncomputable def wI (s : ByteArray) (i : Nat) : ByteArray := bl ((spl 47 s.data.toList).getD i [])
noncomputable def sgV (s : ByteArray) : Nat → Nat → List Value
  | _, 0 => []
  | i, k + 1 => .string (wI s i) :: sgV s (i + 1) k
theorem sgV_eq (s : ByteArray) : ∀ (k i : Nat), i + k = (spl 47 s.data.toList).length → sgV s i k = ((spl 47 s.data.toList).drop i).map strV
  | 0, i, h => by
    rw [List.drop_of_length_le (by omega)]
    rfl
  | k + 1, i, h => by
    have hi : i < (spl 47 s.data.toList).length := by omega
    rw [List.drop_eq_getElem_cons hi, List.map_cons, ← sgV_eq s k (i + 1) (by omega)]
    show Value.string (wI s i) :: _ = _
    unfold wI
    rw [List.getD, List.getElem?_eq_getElem hi]
    rfl
noncomputable def spGr (k : Nat) (f : FuncId) (args : Array Value) (h : AH) : Option (Bool × Value × AH) :=
  cond (Nat.beq f 110) (match args with
    | ⟨[.string s, .string c, .int .i64 a, .int .i64 b]⟩ => some (isB c 47 && decide (a = 0) && decide (b = -1) && Nat.ble s.data.toList.length 1000 && Nat.beq (spl 47 s.data.toList).length k, .slice (some ⟨h.next, 0, none⟩) k k, h.push (.cells ⟨sgV s 0 k⟩ 9 (1, 1)))
    | _ => none) none
theorem spGr_ok (k : Nat) : SpOK (spGr k) := by
  intro f args h v h' hs
  unfold spGr at hs
  obtain ⟨hf, hs2⟩ := cond_some hs
  clear hs
  have := Nat.eq_of_beq_eq_true hf
  subst this
  split at hs2
  · rename_i s c a b
    injection hs2 with hs
    injection hs with hb hs
    injection hs with hv hh
    subst hv hh
    simp only [Bool.and_eq_true, decide_eq_true_eq] at hb
    obtain ⟨⟨⟨⟨b1, rfl⟩, rfl⟩, b4⟩, b5⟩ := hb
    have b1 := isB_eq (b := 47) b1
    subst b1
    have c4 := Nat.le_of_ble_eq_true b4
    have c5 := Nat.eq_of_beq_eq_true b5
    clear b4 b5
    rw [sgV_eq s k 0 (by omega), List.drop_zero]
    generalize hl : s.data.toList = l at c4 c5 ⊢
    have hs : s = bl l := by rw [← hl, bl_self]
    subst hs
    obtain ⟨q, r, h1, h2, h3⟩ := split_ex 47 l
    have e := spl_body 47 l q r h2 h3 h1
    have hle := spl_len 47 l
    rw [e] at c5 hle ⊢
    simp only [List.length_cons] at hle c5
    have := gs_row (c := 47) (q := q) (r := r) h2 h3 (by omega) (by rw [← h1]; omega)
    rw [← h1, c5] at this
    refine ⟨FnOK.new1 (u := .slice (some ⟨0, 0, none⟩) k k) (this.mono ?_) rfl ?_ ?_, Nat.le_succ _⟩
    · rintro v g ⟨rfl, hg⟩
      exact ⟨0, rfl, hg⟩
    · intro x hx
      obtain ⟨d, _, rfl⟩ := List.mem_map.1 hx
      rfl
    · rfl
  · cases hs2
/-- A row of strings, frozen where a tuple holds it. -/
theorem freezeTu {p : Nat} {P : Program} {h : AH} {b : Nat} {t : TypeId} {fr : Nat × Nat} (cs : List Value) (l : List (List UInt8)) {m : Nat} (hm : l.length = m) (hb : h.get b = some (.cells ⟨l.map strV⟩ t fr)) :
    Weak p P #[.tuple ⟨cs⟩] h #[.tuple ⟨cs.map (frz1 b m m (fz ⟨l.map strV⟩))⟩] (h.del b) := by
  refine Weak.freezeIn (n := m) (cap := m) b 1 ⟨l.map strV⟩ hb ?_ (by simpa using hm) (Nat.le_refl _) (by simp; omega) ?_ ?_ rfl ?_
  · intro v hv
    obtain ⟨s, _, rfl⟩ := List.mem_map.1 (show v ∈ l.map strV by simpa using hv)
    rfl
  · intro i x hx
    have hx : (l.map strV)[i]? = some x := by simpa using hx
    rw [List.getElem?_map] at hx
    obtain ⟨q, _, rfl⟩ := Option.map_eq_some_iff.1 hx
    rfl
  · intro i j x v hx hv
    have hx : (l.map strV)[i]? = some x := by simpa using hx
    have hx0 := hx
    rw [List.getElem?_map] at hx
    obtain ⟨q, _, rfl⟩ := Option.map_eq_some_iff.1 hx
    match j, hv with
    | 0, hv =>
      have : strV q = v := by simpa [Value.cells, strV] using hv
      rw [← this, Nat.mul_one, Nat.add_zero]
      simpa using hx0
    | j + 1, hv => simp [Value.cells, strV] at hv
  · intro i
    match i with
    | 0 => exact .inr ⟨_, rfl, rfl⟩
    | i + 1 => exact .inl (by simp)
noncomputable def SSk (k : Nat) : SC := ⟨idn, spOr spNp (spOr spDc (spGr k)), false, true⟩
theorem SSk_ok (k : Nat) : (SSk k).cfg.OK Tryz.prog := (spNp_ok.or (spDc_ok.or (spGr_ok k))).cfg
theorem someSS : Tryz.f12.body.isSome = true := by kernel_rfl
noncomputable def tl2 (s : ByteArray) : ByteArray := (bl (npS s.data.toList)).extract 1 ((bl (npS s.data.toList)).size : Int).toNat
noncomputable def inAll (t : ByteArray) (X : Prop) : Nat → Nat → Prop
  | _, 0 => X
  | i, k + 1 => bif inS (wI t i) && true then inAll t X (i + 1) k else False
noncomputable def dcV (t : ByteArray) : Nat → Nat → List Value
  | _, 0 => []
  | i, k + 1 => .string (bl (decB (wI t i).data.toList)) :: dcV t (i + 1) k
noncomputable def ssT (k : Nat) (s : ByteArray) (Q : Value → Option Obj → Prop) : Prop :=
  bif Nat.ble s.data.toList.length 20000 then bif npE s.data.toList != 0 then Q (.tuple ⟨[.slice none 0 0, .int .i64 (npE s.data.toList)]⟩) none else
    bif decide (1 ≤ ((bl (npS s.data.toList)).size : Int)) && decide (((bl (npS s.data.toList)).size : Int) ≤ ((bl (npS s.data.toList)).size : Int)) then
      bif Nat.ble (tl2 s).data.toList.length 1000 && Nat.beq (spl 47 (tl2 s).data.toList).length k then
        inAll (tl2 s) (Q (.tuple ⟨[.slice (some ⟨0, 0, none⟩) k k, .int .i64 0]⟩) (some (.cells ⟨dcV (tl2 s) 0 k⟩ 9 (1, 1)))) 0 k
      else False else False else False
theorem ss1 (s : ByteArray) (Q : Value → Option Obj → Prop) : ffn Tryz.prog (SSk 1) [] 3000 [] Tryz.f12 [.string s] h0 (fun v h => Q v (h.get 0)) = ssT 1 s Q := by kernel_rfl
theorem ss2 (s : ByteArray) (Q : Value → Option Obj → Prop) : ffn Tryz.prog (SSk 2) [] 3000 [] Tryz.f12 [.string s] h0 (fun v h => Q v (h.get 0)) = ssT 2 s Q := by kernel_rfl
theorem ss3 (s : ByteArray) (Q : Value → Option Obj → Prop) : ffn Tryz.prog (SSk 3) [] 3000 [] Tryz.f12 [.string s] h0 (fun v h => Q v (h.get 0)) = ssT 3 s Q := by kernel_rfl
theorem ss4 (s : ByteArray) (Q : Value → Option Obj → Prop) : ffn Tryz.prog (SSk 4) [] 3000 [] Tryz.f12 [.string s] h0 (fun v h => Q v (h.get 0)) = ssT 4 s Q := by kernel_rfl
theorem np_txt {L : List (List UInt8)} (h : okL L) : npE (txt L) = 0 ∧ npS (txt L) = txt L := by
  obtain ⟨h1, h2, _⟩ := txt_ok h.2.2 h.1 h.2.1
  have h3 := nrm_np h1
  unfold npE npS
  rw [if_pos h2, if_pos h2, h3]
  exact ⟨rfl, rfl⟩
theorem tl_txt {L : List (List UInt8)} (h : okL L) : tl2 (bl (txt L)) = bl (txt L).tail := by
  unfold tl2
  rw [bl_list, (np_txt h).2, bl_size]
  show (bl (txt L)).extract 1 (txt L).length = _
  rw [bl_cut _ _ _ (Nat.le_refl _), List.take_length, List.drop_one]
theorem wI_txt {L : List (List UInt8)} (h : okL L) {i : Nat} (hi : i < L.length) : wI (bl (txt L).tail) i = bl (segB L[i]) := by
  unfold wI
  rw [bl_list, (txt_ok h.2.2 h.1 h.2.1).2.2, List.getD, List.getElem?_map, List.getElem?_eq_getElem hi]
  rfl
theorem inAll_ok {L : List (List UInt8)} (h : okL L) {X : Prop} (hX : X) : ∀ k i, i + k = L.length → inAll (bl (txt L).tail) X i k
  | 0, _, _ => hX
  | k + 1, i, hi => by
    have hi' : i < L.length := by omega
    refine need_mk ?_ (inAll_ok h hX k (i + 1) (by omega))
    rw [wI_txt h hi']
    have : inS (bl (segB L[i])) = true := by
      unfold inS segs
      rw [bl_list]
      simpa using ⟨_, h.2.2 _ (List.getElem_mem hi'), rfl⟩
    rw [this]
    rfl
theorem dcV_txt {L : List (List UInt8)} (h : okL L) : ∀ k i, i + k = L.length → dcV (bl (txt L).tail) i k = (L.drop i).map strV
  | 0, i, hi => by
    rw [List.drop_of_length_le (by omega)]
    rfl
  | k + 1, i, hi => by
    have hi' : i < L.length := by omega
    rw [List.drop_eq_getElem_cons hi', List.map_cons, ← dcV_txt h k (i + 1) (by omega)]
    show Value.string (bl (decB (wI (bl (txt L).tail) i).data.toList)) :: _ = _
    rw [wI_txt h hi', bl_list, (seg_ok _ (h.2.2 _ (List.getElem_mem hi'))).1]
    rfl
theorem ssT_ok {L : List (List UInt8)} (h : okL L) {Q : Value → Option Obj → Prop} (hQ : Q (.tuple ⟨[.slice (some ⟨0, 0, none⟩) L.length L.length, .int .i64 0]⟩) (some (.cells ⟨L.map strV⟩ 9 (1, 1)))) : ssT L.length (bl (txt L)) Q := by
  have hl := txt_len h.2.2
  have h4 := h.2.1
  obtain ⟨e1, e2⟩ := np_txt h
  have h0 : 1 ≤ (txt L).length := by
    obtain ⟨_, h2, _⟩ := txt_ok h.2.2 h.1 h.2.1
    have := (okP_iff.1 h2).2.1
    cases hq : txt L with
    | nil => rw [hq] at this; cases this
    | cons a b => simp
  unfold ssT
  rw [bl_list, tl_txt h, bl_list, e1, e2, bl_size, (txt_ok h.2.2 h.1 h.2.1).2.2, dcV_txt h L.length 0 (by omega), List.drop_zero]
  refine need_mk (Nat.ble_eq_true_of_le (by omega)) (pick_f rfl (need_mk (by simp; omega) (need_mk ?_ (inAll_ok h hQ _ _ (by omega)))))
  rw [Bool.and_eq_true, Nat.ble_eq, List.length_tail, List.length_map, Nat.beq_refl]
  exact ⟨by omega, rfl⟩
theorem ss_row : ∀ {L : List (List UInt8)}, okL L → FnOK 0 Tryz.prog 12 ⟨[.string (bl (txt L))]⟩ h0 (fun v h => v = .tuple ⟨[.slice (some ⟨0, 0, none⟩) L.length L.length, .int .i64 0]⟩ ∧ h.get 0 = some (.cells ⟨L.map strV⟩ 9 (1, 1)))
  | [], h => absurd rfl h.1
  | [a], h => FnOK.ftree (SSk_ok 1) mixed Tryz.func12 someSS (ss1 _ (fun v o => v = .tuple ⟨[.slice (some ⟨0, 0, none⟩) 1 1, .int .i64 0]⟩ ∧ o = some (.cells ⟨[a].map strV⟩ 9 (1, 1)))) (ssT_ok h ⟨rfl, rfl⟩)
  | [a, b], h => FnOK.ftree (SSk_ok 2) mixed Tryz.func12 someSS (ss2 _ (fun v o => v = .tuple ⟨[.slice (some ⟨0, 0, none⟩) 2 2, .int .i64 0]⟩ ∧ o = some (.cells ⟨[a, b].map strV⟩ 9 (1, 1)))) (ssT_ok h ⟨rfl, rfl⟩)
  | [a, b, c], h => FnOK.ftree (SSk_ok 3) mixed Tryz.func12 someSS (ss3 _ (fun v o => v = .tuple ⟨[.slice (some ⟨0, 0, none⟩) 3 3, .int .i64 0]⟩ ∧ o = some (.cells ⟨[a, b, c].map strV⟩ 9 (1, 1)))) (ssT_ok h ⟨rfl, rfl⟩)
  | [a, b, c, d], h => FnOK.ftree (SSk_ok 4) mixed Tryz.func12 someSS (ss4 _ (fun v o => v = .tuple ⟨[.slice (some ⟨0, 0, none⟩) 4 4, .int .i64 0]⟩ ∧ o = some (.cells ⟨[a, b, c, d].map strV⟩ 9 (1, 1)))) (ssT_ok h ⟨rfl, rfl⟩)
  | _ :: _ :: _ :: _ :: _ :: _, h => absurd h.2.1 (by simp)
theorem ss_fn {L : List (List UInt8)} (h : okL L) : FnOK 0 Tryz.prog 12 ⟨[.string (bl (txt L))]⟩ h0 (fun v _ => v = .tuple ⟨[fz ⟨L.map strV⟩, .int .i64 0]⟩) := by
  refine FnOK.weak1 ((ss_row h).mono ?_)
  rintro v g ⟨rfl, hg⟩
  refine ⟨_, _, freezeTu _ L rfl hg, ?_⟩
  show Value.tuple ⟨[frz1 0 L.length L.length (fz ⟨L.map strV⟩) (.slice (some ⟨0, 0, none⟩) L.length L.length), .int .i64 0]⟩ = _
  unfold frz1
  simp only [Nat.beq_refl, Bool.and_self, cond_true]
open Classical in
noncomputable def okT (s : ByteArray) : Bool := @decide (∃ L, okL L ∧ s = bl (txt L)) (Classical.propDecidable _)
open Classical in
theorem okT_iff {s : ByteArray} : okT s = true ↔ ∃ L, okL L ∧ s = bl (txt L) := by unfold okT; exact decide_eq_true_iff
noncomputable def spSs (f : FuncId) (args : Array Value) (h : AH) : Option (Bool × Value × AH) :=
  cond (Nat.beq f 12) (match args with
    | ⟨[.string s]⟩ => some (okT s, .tuple ⟨[fz ⟨(wordsOf s.data.toList).map strV⟩, .int .i64 0]⟩, h)
    | _ => none) none
theorem spSs_ok : SpOK spSs := by
  intro f args h v h' hs
  unfold spSs at hs
  obtain ⟨hf, hs2⟩ := cond_some hs
  clear hs
  have := Nat.eq_of_beq_eq_true hf
  subst this
  split at hs2
  · injection hs2 with hs
    injection hs with hb hs
    injection hs with hv hh
    subst hv hh
    rename_i s
    obtain ⟨L, hL, rfl⟩ := okT_iff.1 hb
    rw [bl_list, words_of hL.2.2 hL.1 hL.2.1]
    exact ⟨FnOK.pure (ss_fn hL) rfl rfl h, Nat.le_refl _⟩
  · cases hs2
end Go.Proofs.YtfjfdemnnhfmoaaGreatDoor
