/-
  Headers: facts on what is sent on.
-/
import Derived.Test.YtfjfdemnnhfmoaaGreatDoorHoP
namespace Go.Proofs.YtfjfdemnnhfmoaaGreatDoor
open Go.Ev Go.RowKit RecLaw PathLaw HopLaw

/-- A word that may be sent on: a field without commas. -/
def okW (s : ByteArray) : Prop := okVal s = true ∧ s.size ≤ 100
theorem st1_ok {f : ByteArray} {l : List (ByteArray × ByteArray)} (h : l.all okH = true) (h4 : l.length ≤ 4) (hs : ∀ p ∈ l, p.2.size ≤ 100) (hf : okW f) :
    (st1 f l).all okH = true ∧ (st1 f l).length ≤ 5 ∧ (∀ p ∈ st1 f l, p.2.size ≤ 510) ∧ valuesL viaB (st1 f l) = valuesL viaB l ∧ (f.data.toList ≠ [] → valuesL xffB (st1 f l) = [jn xffB l f]) := by
  have hv := val_len xffB l
  have hz := jn_size (k := xffB) hs (by omega) hf.2
  have hs' : ∀ p ∈ l, p.2.size ≤ 510 := fun p hp => Nat.le_trans (hs p hp) (by omega)
  unfold st1
  cases hc : !((jn xffB l f).toList == (ByteArray.mk #[]).toList) with
  | true =>
    refine ⟨set_okH rfl (jn_val h hf.1 (by omega)) h, ?_, set_size hz hs', values_set_other (named_other rfl), fun _ => values_set _ _ _⟩
    have := (set_len xffB (jn xffB l f) l).2
    rw [cond_true]
    omega
  | false =>
    refine ⟨h, Nat.le_succ_of_le h4, hs', rfl, fun hn => ?_⟩
    exfalso
    have : (jn xffB l f).toList == (ByteArray.mk #[]).toList := by simpa using hc
    unfold jn at this
    rw [bl_beq0, List.isEmpty_iff] at this
    exact joinB_ne _ hn this
theorem st2_ok {ho : ByteArray} {l : List (ByteArray × ByteArray)} (h : l.all okH = true) (h5 : l.length ≤ 5) (hs : ∀ p ∈ l, p.2.size ≤ 510) (hh : okW ho) :
    (st2 ho l).all okH = true ∧ (st2 ho l).length ≤ 6 ∧ (∀ p ∈ st2 ho l, p.2.size ≤ 510) ∧ valuesL viaB (st2 ho l) = valuesL viaB l ∧ valuesL xffB (st2 ho l) = valuesL xffB l := by
  unfold st2
  cases hc : (((valuesL xfhB l).length : Nat) : Int) == 0 with
  | true =>
    refine ⟨set_okH rfl hh.1 h, ?_, set_size (Nat.le_trans hh.2 (by omega)) hs, values_set_other (named_other rfl), values_set_other (named_other rfl)⟩
    have := (set_len xfhB ho l).2
    rw [cond_true]
    omega
  | false => exact ⟨h, Nat.le_succ_of_le h5, hs, rfl, rfl⟩
theorem sent_ok {by_ ho f : ByteArray} {l : List (ByteArray × ByteArray)} (hd : DrH l) (hb : okW by_) (hh : okW ho) (hf : okW f) :
    (sent by_ ho f l).all okH = true ∧ (sent by_ ho f l).length ≤ 7 ∧ (∀ p ∈ sent by_ ho f l, p.2.size ≤ 510) ∧ (∃ vs, vB viaB (sent by_ ho f l) = [joinB (vs ++ [by_.data.toList])]) ∧ (f.data.toList ≠ [] → ∃ vs, vB xffB (sent by_ ho f l) = [joinB (vs ++ [f.data.toList])]) := by
  have hsub := removeAll_sub (hopsB ++ partsB (vB conB l)) l
  unfold sent
  generalize removeAll (hopsB ++ partsB (vB conB l)) l = l2 at hsub ⊢
  have h2 : l2.all okH = true := List.all_eq_true.2 fun p hp => List.all_eq_true.1 hd.okH p (hsub.subset hp)
  have hs2 : ∀ p ∈ l2, p.2.size ≤ 100 := fun p hp => hd.size p (hsub.subset hp)
  have h24 : l2.length ≤ 4 := Nat.le_trans hsub.length_le hd.1
  obtain ⟨a1, a2, a3, a4, a5⟩ := st1_ok h2 h24 hs2 hf
  obtain ⟨b1, b2, b3, b4, b5⟩ := st2_ok (ho := ho) a1 a2 a3 hh
  have hvl : (valuesL viaB (st2 ho (st1 f l2))).length ≤ 4 := by rw [b4, a4]; exact Nat.le_trans (val_len _ _) h24
  have hz : (jn viaB (st2 ho (st1 f l2)) by_).size ≤ 510 := by
    unfold jn
    rw [bl_size]
    have e : vB viaB (st2 ho (st1 f l2)) = vB viaB l2 := by unfold vB; rw [b4, a4]
    rw [e]
    have := jn_size (k := viaB) hs2 (Nat.le_trans (val_len _ _) h24) hb.2
    unfold jn at this
    rw [bl_size] at this
    omega
  unfold st3
  refine ⟨set_okH rfl (jn_val b1 hb.1 (by omega)) b1, ?_, set_size hz b3, ?_, fun hn => ?_⟩
  · have := (set_len viaB (jn viaB (st2 ho (st1 f l2)) by_) (st2 ho (st1 f l2))).2
    omega
  · refine ⟨vB viaB (st2 ho (st1 f l2)), ?_⟩
    unfold vB
    rw [values_set]
    unfold jn vB
    rw [List.map_cons, List.map_nil, bl_list]
  · refine ⟨vB xffB l2, ?_⟩
    unfold vB
    rw [values_set_other (named_other rfl), b5, a5 hn]
    unfold jn vB
    rw [List.map_cons, List.map_nil, bl_list]
theorem fldW {s : ByteArray} (h : okVal s = true) : s.data.toList.head? ≠ some 32 ∧ s.data.toList.getLast? ≠ some 32 := by
  unfold okVal at h
  rw [Bool.and_eq_true] at h
  exact (fldB_iff.1 h.1).2
/-- Whom it was sent by stands last. -/
theorem sent_via {by_ ho f : ByteArray} {l : List (ByteArray × ByteArray)} (hd : DrH l) (hb : okW by_) (hh : okW ho) (hf : okW f) (hne : by_.data.toList ≠ []) (h44 : (44 : UInt8) ∉ by_.data.toList) :
    hasS ((partsB (vB viaB (sent by_ ho f l))).map strV) by_ = true := by
  obtain ⟨_, _, _, ⟨vs, hv⟩, _⟩ := sent_ok hd hb hh hf
  obtain ⟨q, hq⟩ := parts_last vs hne h44 (fldW hb.1).1 (fldW hb.1).2
  rw [hv, hq]
  unfold hasS
  rw [List.any_eq_true]
  refine ⟨strV by_.data.toList, by simp, ?_⟩
  unfold strV
  rw [bl_self]
  simp [toStr]
theorem sent_xff {by_ ho f : ByteArray} {l : List (ByteArray × ByteArray)} (hd : DrH l) (hb : okW by_) (hh : okW ho) (hf : okW f) (hne : f.data.toList ≠ []) (h44 : (44 : UInt8) ∉ f.data.toList) :
    ∃ q, partsB (vB xffB (sent by_ ho f l)) = q ++ [f.data.toList] := by
  obtain ⟨_, _, _, _, hx⟩ := sent_ok hd hb hh hf
  obtain ⟨vs, hv⟩ := hx hne
  rw [hv]
  exact parts_last vs hne h44 (fldW hf.1).1 (fldW hf.1).2
end Go.Proofs.YtfjfdemnnhfmoaaGreatDoor
