/-
  Headers: Forward as a contract.
-/
import Derived.Test.YtfjfdemnnhfmoaaGreatDoorHoH
namespace Go.Proofs.YtfjfdemnnhfmoaaGreatDoor
open Go.Ev Go.RowKit RecLaw PathLaw HopLaw

theorem beqN_refl : ∀ l : List Nat, beqN l l = true
  | [] => rfl
  | a :: l => by simp [beqN, beqN_refl l, Nat.beq_refl]
theorem named_refl (k : ByteArray) : named k k = true := beqN_refl _
theorem setR_true (k x : ByteArray) : ∀ l : List (ByteArray × ByteArray), (setR k x l true).2 = true ∧ valuesL k (setR k x l true).1 = []
  | [] => ⟨rfl, rfl⟩
  | p :: l => by
    obtain ⟨h1, h2⟩ := setR_true k x l
    simp only [setR]
    cases hb : named p.1 k with
    | true => exact ⟨h1, h2⟩
    | false => exact ⟨h1, by simpa [valuesL, hb] using h2⟩
theorem setR_false (k x : ByteArray) : ∀ l : List (ByteArray × ByteArray), valuesL k (setR k x l false).1 = cond (setR k x l false).2 [x] []
  | [] => rfl
  | p :: l => by
    have ih := setR_false k x l
    obtain ⟨h1, h2⟩ := setR_true k x l
    simp only [setR]
    cases hb : named p.1 k with
    | true =>
      simp only [cond_true, cond_false, h1]
      have : valuesL k ((p.1, x) :: (setR k x l true).1) = x :: valuesL k (setR k x l true).1 := by simp [valuesL, hb]
      rw [this, h2]
    | false =>
      simp only [cond_false]
      rw [← ih]
      simp [valuesL, hb]
/-- What is set is there once. -/
theorem values_set (k x : ByteArray) (l : List (ByteArray × ByteArray)) : valuesL k (setL k x l) = [x] := by
  have h := setR_false k x l
  unfold setL
  cases hd : (setR k x l false).2 with
  | true => rw [hd] at h; exact h
  | false =>
    rw [hd] at h
    have : valuesL k ((setR k x l false).1 ++ [(k, x)]) = valuesL k (setR k x l false).1 ++ [x] := by simp [valuesL, named_refl]
    rw [cond_false, this, h]
    rfl
/-- What is removed is not there. -/
theorem values_remove (k : ByteArray) (l : List (ByteArray × ByteArray)) : valuesL k (removeL k l) = [] := by
  have : (removeL k l).filter (fun p => named p.1 k) = [] := by
    rw [List.filter_eq_nil_iff]
    intro p hp
    have := (List.mem_filter.1 hp).2
    simpa using this
  simp [valuesL, this]
theorem remove_setR (k x : ByteArray) : ∀ (l : List (ByteArray × ByteArray)) (d : Bool), removeL k (setR k x l d).1 = removeL k l
  | [], _ => rfl
  | p :: l, d => by
    have i1 := remove_setR k x l d
    have i2 := remove_setR k x l true
    simp only [setR]
    cases hb : named p.1 k with
    | true =>
      have e : removeL k (p :: l) = removeL k l := by simp [removeL, hb]
      cases d with
      | true => rw [e]; exact i2
      | false =>
        rw [e, ← i2]
        simp [removeL, hb]
    | false =>
      have e : removeL k (p :: l) = p :: removeL k l := by simp [removeL, hb]
      rw [e, ← i1]
      simp [removeL, hb]
/-- All others stay. -/
theorem remove_set (k x : ByteArray) (l : List (ByteArray × ByteArray)) : removeL k (setL k x l) = removeL k l := by
  unfold setL
  cases (setR k x l false).2 with
  | true => exact remove_setR k x l false
  | false =>
    have : removeL k ((setR k x l false).1 ++ [(k, x)]) = removeL k (setR k x l false).1 := by simp [removeL, named_refl]
    rw [cond_false, this]
    exact remove_setR k x l false
theorem setR_mem (k x : ByteArray) : ∀ (l : List (ByteArray × ByteArray)) (d : Bool) (p : ByteArray × ByteArray), p ∈ (setR k x l d).1 → (∃ q ∈ l, p.1 = q.1) ∧ (p.2 = x ∨ p ∈ l)
  | [], d, p, h => by simp [setR] at h
  | q :: l, d, p, h => by
    have lift : ((∃ q ∈ l, p.1 = q.1) ∧ (p.2 = x ∨ p ∈ l)) → (∃ r ∈ q :: l, p.1 = r.1) ∧ (p.2 = x ∨ p ∈ q :: l) := by
      rintro ⟨⟨r, h1, h2⟩, h3⟩
      exact ⟨⟨r, List.mem_cons_of_mem _ h1, h2⟩, h3.imp_right (List.mem_cons_of_mem _)⟩
    simp only [setR] at h
    cases hb : named q.1 k with
    | true =>
      rw [hb] at h
      cases d with
      | true => exact lift (setR_mem k x l true p h)
      | false =>
        rcases List.mem_cons.1 h with rfl | h
        · exact ⟨⟨q, by simp, rfl⟩, .inl rfl⟩
        · exact lift (setR_mem k x l true p h)
    | false =>
      rw [hb] at h
      rcases List.mem_cons.1 h with rfl | h
      · exact ⟨⟨p, by simp, rfl⟩, .inr (by simp)⟩
      · exact lift (setR_mem k x l d p h)
theorem set_ok {k x : ByteArray} {l : List (ByteArray × ByteArray)} (hk : inU namesU k = true) (hx : okVal x = true) (h : ∀ p ∈ l, okH p = true) : ∀ p ∈ setL k x l, okH p = true := by
  have key : ∀ p ∈ (setR k x l false).1, okH p = true := by
    intro p hp
    obtain ⟨⟨q, h1, h2⟩, h3⟩ := setR_mem k x l false p hp
    have hq := h q h1
    unfold okH at hq ⊢
    rw [Bool.and_eq_true] at hq ⊢
    refine ⟨by rw [h2]; exact hq.1, ?_⟩
    rcases h3 with h3 | h3
    · rw [h3]; exact hx
    · have := h p h3
      unfold okH at this
      rw [Bool.and_eq_true] at this
      exact this.2
  unfold setL
  cases (setR k x l false).2 with
  | true => exact key
  | false =>
    intro p hp
    rw [cond_false] at hp
    rcases List.mem_append.1 hp with hp | hp
    · exact key p hp
    · rw [List.mem_singleton.1 hp]
      simp [okH, hk, hx]
theorem set_len (k x : ByteArray) (l : List (ByteArray × ByteArray)) : 1 ≤ (setL k x l).length ∧ (setL k x l).length ≤ l.length + 1 := by
  have h1 := setR_len k x l false
  constructor
  · have := values_set k x l
    cases he : setL k x l with
    | nil => rw [he] at this; simp [valuesL] at this
    | cons a b => simp
  · unfold setL
    cases (setR k x l false).2 <;> simp <;> omega

theorem vsL_eq (k : ByteArray) (l : List (ByteArray × ByteArray)) : vsL k l = (valuesL k l).map Value.string := by unfold vsL hX; rw [hlist_hv]
theorem seH_eq (k x : ByteArray) (l : List (ByteArray × ByteArray)) : seH k x l = setL k x l := by unfold seH hX; rw [hlist_hv]
def vB (k : ByteArray) (l : List (ByteArray × ByteArray)) : List (List UInt8) := (valuesL k l).map fun v => v.data.toList
theorem blS_vsL (k : ByteArray) (l : List (ByteArray × ByteArray)) : blS (vsL k l) = vB k l := by rw [vsL_eq]; unfold blS vB; rw [List.map_map]; rfl
theorem ptL_eq (k : ByteArray) (l : List (ByteArray × ByteArray)) : ptL k l = (partsB (vB k l)).map strV := by unfold ptL; rw [blS_vsL]
theorem val_mem {k v : ByteArray} {l : List (ByteArray × ByteArray)} (h : v ∈ valuesL k l) : ∃ p ∈ l, p.2 = v := by
  unfold valuesL at h
  obtain ⟨p, hp, e⟩ := List.mem_map.1 h
  exact ⟨p, (List.mem_filter.1 hp).1, e⟩
theorem val_len (k : ByteArray) (l : List (ByteArray × ByteArray)) : (valuesL k l).length ≤ l.length := by
  unfold valuesL
  rw [List.length_map]
  exact List.length_filter_le _ _
theorem vB_len (k : ByteArray) (l : List (ByteArray × ByteArray)) : (vB k l).length = (valuesL k l).length := List.length_map _
theorem str_all (L : List ByteArray) : (L.map Value.string).all isStr = true := by
  rw [List.all_eq_true]
  intro v hv
  obtain ⟨s, _, rfl⟩ := List.mem_map.1 hv
  rfl
theorem strV_all (L : List (List UInt8)) : (L.map strV).all isStr = true := by
  rw [List.all_eq_true]
  intro v hv
  obtain ⟨s, _, rfl⟩ := List.mem_map.1 hv
  rfl
theorem okV_mk {k : ByteArray} {l : List (ByteArray × ByteArray)} (h : l.all okN = true) (h4 : l.length ≤ 50) (hk : inU asksU k = true) : okV k l = true := by
  unfold okV hX
  rw [shp_hv, hlist_hv, h, List.length_map, Nat.ble_eq_true_of_le h4, hk]; rfl
theorem vB_mem {k : ByteArray} {l : List (ByteArray × ByteArray)} {M : Nat} (hs : ∀ p ∈ l, p.2.size ≤ M) {v : List UInt8} (hv : v ∈ vB k l) : v.length ≤ M := by
  unfold vB at hv
  obtain ⟨x, hx, rfl⟩ := List.mem_map.1 hv
  obtain ⟨p, hp, rfl⟩ := val_mem hx
  exact hs p hp
theorem okPt_mk {k : ByteArray} {l : List (ByteArray × ByteArray)} (hs : ∀ p ∈ l, p.2.size ≤ 1000) (h4 : l.length ≤ 50) : okPt (vsL k l) = true := by
  unfold okPt
  rw [blS_vsL, vsL_eq, str_all, List.length_map, Nat.ble_eq_true_of_le (Nat.le_trans (val_len k l) h4), Bool.true_and, Bool.true_and, List.all_eq_true]
  intro v hv
  exact Nat.ble_eq_true_of_le (vB_mem hs hv)
theorem okJd_mk {k s : ByteArray} {l : List (ByteArray × ByteArray)} (hs : ∀ p ∈ l, p.2.size ≤ 1000) (h4 : (valuesL k l).length ≤ 4) (hz : s.size ≤ 1000) : okJd (vsL k l) s = true := by
  unfold okJd
  rw [blS_vsL, vsL_eq, str_all, List.length_map, Nat.ble_eq_true_of_le h4, Bool.true_and, Bool.true_and, Bool.and_eq_true, List.all_eq_true]
  refine ⟨fun v hv => Nat.ble_eq_true_of_le (Nat.le_trans (vB_mem hs hv) (by omega)), Nat.ble_eq_true_of_le ?_⟩
  show s.size ≤ 5000
  omega
theorem join_len {M : Nat} : ∀ (vs : List (List UInt8)), (∀ v ∈ vs, v.length ≤ M) → (Lib.join vs sepC).length ≤ vs.length * (M + 2)
  | [], _ => Nat.zero_le _
  | [y], h => by
    have := h y (by simp)
    rw [Lib.join_one]; simp; omega
  | y :: z :: r, h => by
    have ih := join_len (z :: r) fun v hv => h v (by simp [hv])
    have hy := h y (by simp)
    have e : Lib.join (y :: z :: r) sepC = y ++ sepC ++ Lib.join (z :: r) sepC := by
      rw [Lib.join_cons, Lib.join_cons]
      simp [Lib.joinTail, List.append_assoc]
    rw [e, List.length_append, List.length_append, List.length_cons (a := y), Nat.succ_mul]
    have : sepC.length = 2 := rfl
    omega
theorem joinB_len {M : Nat} {vs : List (List UInt8)} (h : ∀ v ∈ vs, v.length ≤ M) : (joinB vs).length ≤ vs.length * (M + 2) := by
  unfold joinB
  have h1 := join_len (M := M) (fullB vs) fun v hv => h v (by unfold fullB at hv; exact (List.mem_filter.1 hv).1)
  have h2 : (fullB vs).length ≤ vs.length := by unfold fullB; exact List.length_filter_le _ _
  exact Nat.le_trans h1 (Nat.mul_le_mul_right _ h2)
noncomputable def jn (k : ByteArray) (l : List (ByteArray × ByteArray)) (s : ByteArray) : ByteArray := bl (joinB (vB k l ++ [s.data.toList]))
theorem jnS_eq (k s : ByteArray) (l : List (ByteArray × ByteArray)) : jnS (vsL k l) s = jn k l s := by unfold jnS jn; rw [blS_vsL]
theorem jn_size {k s : ByteArray} {l : List (ByteArray × ByteArray)} (hs : ∀ p ∈ l, p.2.size ≤ 100) (h4 : (valuesL k l).length ≤ 4) (hz : s.size ≤ 100) : (jn k l s).size ≤ 510 := by
  unfold jn
  rw [bl_size]
  have := joinB_len (M := 100) (vs := vB k l ++ [s.data.toList]) fun v hv => by
    rcases List.mem_append.1 hv with hv | hv
    · exact vB_mem hs hv
    · rw [List.mem_singleton.1 hv]; exact hz
  rw [List.length_append, vB_len, List.length_singleton] at this
  omega
theorem set_mem {k x : ByteArray} {l : List (ByteArray × ByteArray)} {p : ByteArray × ByteArray} (h : p ∈ setL k x l) : ((∃ q ∈ l, p.1 = q.1) ∨ p.1 = k) ∧ (p.2 = x ∨ p ∈ l) := by
  unfold setL at h
  cases hb : (setR k x l false).2 with
  | true => rw [hb] at h; obtain ⟨h1, h2⟩ := setR_mem k x l false p h; exact ⟨.inl h1, h2⟩
  | false =>
    rw [hb] at h
    rcases List.mem_append.1 h with h | h
    · obtain ⟨h1, h2⟩ := setR_mem k x l false p h; exact ⟨.inl h1, h2⟩
    · rw [List.mem_singleton.1 h]; exact ⟨.inr rfl, .inl rfl⟩
theorem set_okN {k x : ByteArray} {l : List (ByteArray × ByteArray)} (hk : inU namesU k = true) (h : l.all okN = true) : (setL k x l).all okN = true := by
  rw [List.all_eq_true] at h ⊢
  intro p hp
  unfold okN
  rcases (set_mem hp).1 with ⟨q, hq, e⟩ | e
  · rw [e]; exact h q hq
  · rw [e]; exact hk
theorem set_size {k x : ByteArray} {l : List (ByteArray × ByteArray)} {M : Nat} (hx : x.size ≤ M) (h : ∀ p ∈ l, p.2.size ≤ M) : ∀ p ∈ setL k x l, p.2.size ≤ M := by
  intro p hp
  rcases (set_mem hp).2 with e | e
  · rw [e]; exact hx
  · exact h p e
theorem values_setR {k j x : ByteArray} (hn : ∀ p, named p j = true → named p k = false) : ∀ (l : List (ByteArray × ByteArray)) (d : Bool), valuesL k (setR j x l d).1 = valuesL k l
  | [], _ => rfl
  | p :: l, d => by
    have i1 := values_setR (x := x) hn l d
    have i2 := values_setR (x := x) hn l true
    have hc : ∀ (q : ByteArray × ByteArray) (r : List (ByteArray × ByteArray)), valuesL k (q :: r) = bif named q.1 k then q.2 :: valuesL k r else valuesL k r := by
      intro q r
      unfold valuesL
      rw [List.filter_cons]
      cases named q.1 k <;> rfl
    simp only [setR]
    cases hb : named p.1 j with
    | true =>
      rw [hc p l, hn _ hb]
      cases d with
      | true => exact i1
      | false => simp only [cond_true, cond_false]; rw [hc, hn _ hb]; exact i2
    | false => simp only [cond_false]; rw [hc, hc, i1]
theorem values_set_other {k j x : ByteArray} {l : List (ByteArray × ByteArray)} (hn : ∀ p, named p j = true → named p k = false) : valuesL k (setL j x l) = valuesL k l := by
  have h := values_setR (k := k) (x := x) hn l false
  unfold setL
  cases (setR j x l false).2 with
  | true => exact h
  | false =>
    have : valuesL k ((setR j x l false).1 ++ [(j, x)]) = valuesL k (setR j x l false).1 := by simp [valuesL, hn j (named_refl j)]
    rw [cond_false, this, h]
theorem named_other {j k : ByteArray} (h : named j k = false) : ∀ p, named p j = true → named p k = false := by
  intro p hp
  have e := beqN_eq (show beqN ((natsOf p).map lowN) ((natsOf j).map lowN) = true from hp)
  unfold named at h ⊢
  rw [e]; exact h
/-! the steps of Forward -/
noncomputable def st1 (f : ByteArray) (l : List (ByteArray × ByteArray)) : List (ByteArray × ByteArray) := bif !((jn xffB l f).toList == (ByteArray.mk #[]).toList) then setL xffB (jn xffB l f) l else l
noncomputable def st2 (ho : ByteArray) (l : List (ByteArray × ByteArray)) : List (ByteArray × ByteArray) := bif (((valuesL xfhB l).length : Nat) : Int) == 0 then setL xfhB ho l else l
noncomputable def st3 (by_ : ByteArray) (l : List (ByteArray × ByteArray)) : List (ByteArray × ByteArray) := setL viaB (jn viaB l by_) l
theorem fwE_ok {l5 : List (ByteArray × ByteArray)} {Q : Value → Prop} {R : List (ByteArray × ByteArray) → Prop} (h7 : l5.length ≤ 7) (h : bif bigV l5 then Q (eR 2) else R l5) : fwE l5 Q R := by
  have e : (Array.mk (hX l5)).size = l5.length := by show (List.map hv l5).length = _; exact List.length_map _
  refine pick_f (decide_eq_false (by rw [e]; omega)) (need_mk (by unfold hX; rw [shp_hv, List.length_map, Nat.ble_eq_true_of_le h7]; rfl) ?_)
  unfold hX
  rw [hlist_hv]
  exact h
theorem fwD_ok {by_ : ByteArray} {l4 : List (ByteArray × ByteArray)} {Q : Value → Prop} {R : List (ByteArray × ByteArray) → Prop} (h1 : l4.all okN = true) (h2 : l4.length ≤ 6) (h3 : ∀ p ∈ l4, p.2.size ≤ 1000) (h4 : (valuesL viaB l4).length ≤ 4) (hb : by_.size ≤ 100)
    (h : bif bigV (st3 by_ l4) then Q (eR 2) else R (st3 by_ l4)) : fwD by_ l4 Q R := by
  have ho := okV_mk (k := viaB) h1 (by omega) rfl
  refine need_mk ho (need_mk (okJd_mk h3 h4 (by omega)) (need_mk ho ?_))
  rw [jnS_eq, seH_eq]
  refine fwE_ok ?_ h
  have := (set_len viaB (jn viaB l4 by_) l4).2
  omega
theorem fwC_ok {by_ ho : ByteArray} {l3 : List (ByteArray × ByteArray)} {Q : Value → Prop} {R : List (ByteArray × ByteArray) → Prop} (h1 : l3.all okN = true) (h2 : l3.length ≤ 5) (h3 : ∀ p ∈ l3, p.2.size ≤ 1000) (h4 : (valuesL viaB l3).length ≤ 4) (hb : by_.size ≤ 100) (hh : ho.size ≤ 100)
    (h : bif bigV (st3 by_ (st2 ho l3)) then Q (eR 2) else R (st3 by_ (st2 ho l3))) : fwC by_ ho l3 Q R := by
  have ho' := okV_mk (k := xfhB) h1 (by omega) rfl
  refine need_mk ho' ?_
  have e : (Array.mk (vsL xfhB l3)).size = (valuesL xfhB l3).length := by rw [vsL_eq]; exact List.length_map _
  rw [e]
  unfold st2 at h
  cases hc : (((valuesL xfhB l3).length : Nat) : Int) == 0 with
  | true =>
    rw [hc] at h
    rw [seH_eq]
    refine need_mk ho' (fwD_ok (set_okN rfl h1) ?_ (set_size (by omega) h3) ?_ hb h)
    · have := (set_len xfhB ho l3).2
      omega
    · rw [values_set_other (named_other rfl)]; exact h4
  | false =>
    rw [hc] at h
    exact fwD_ok h1 (by omega) h3 h4 hb h
theorem fwB_ok {by_ ho f : ByteArray} {l2 : List (ByteArray × ByteArray)} {Q : Value → Prop} {R : List (ByteArray × ByteArray) → Prop} (h1 : l2.all okN = true) (h2 : l2.length ≤ 4) (h3 : ∀ p ∈ l2, p.2.size ≤ 100) (hb : by_.size ≤ 100) (hh : ho.size ≤ 100) (hf : f.size ≤ 100)
    (h : bif bigV (st3 by_ (st2 ho (st1 f l2))) then Q (eR 2) else R (st3 by_ (st2 ho (st1 f l2)))) : fwB by_ ho f l2 Q R := by
  have ho' := okV_mk (k := xffB) h1 (by omega) rfl
  have hl := val_len xffB l2
  have hlv := val_len viaB l2
  have h3' : ∀ p ∈ l2, p.2.size ≤ 1000 := fun p hp => Nat.le_trans (h3 p hp) (by omega)
  refine need_mk ho' (need_mk (okJd_mk h3' (by omega) (by omega)) ?_)
  rw [jnS_eq, seH_eq]
  unfold st1 at h
  cases hc : !((jn xffB l2 f).toList == (ByteArray.mk #[]).toList) with
  | true =>
    rw [hc] at h
    refine need_mk ho' (fwC_ok (set_okN rfl h1) ?_ (set_size ?_ h3') ?_ hb hh h)
    · have := (set_len xffB (jn xffB l2 f) l2).2
      omega
    · have := jn_size (k := xffB) h3 (by omega) hf
      omega
    · rw [values_set_other (named_other rfl)]; omega
  | false =>
    rw [hc] at h
    exact fwC_ok h1 (by omega) h3' (by omega) hb hh h
end Go.Proofs.YtfjfdemnnhfmoaaGreatDoor
