/-
  Specifications over scopes: sorting, cutting, 'isScope', 'covers'.
-/
import Derived.Test.YtklednomnpghcaaGreatDoorScopeB
namespace Go.Proofs.YtklednomnpghcaaGreatDoor
open Go.Ev Go.RowKit ScopeLaw Go.Sort

def unS (v : Value) : List UInt8 := (toStr v).data.toList
theorem un_map (l : List (List UInt8)) : (l.map scp).map unS = l := by
  rw [List.map_map]
  exact (List.map_congr_left (fun _ _ => rfl)).trans (List.map_id l)
theorem scp_un (s : ByteArray) : Value.string s = scp s.data.toList := by
  obtain ⟨⟨l⟩⟩ := s
  rfl
theorem str_un : ∀ {vs : List Value}, vs.all isStr = true → vs = (vs.map unS).map scp
  | [], _ => rfl
  | v :: l, h => by
    simp only [List.all_cons, Bool.and_eq_true] at h
    simp only [List.map_cons, ← str_un h.2]
    congr 1
    have h1 := h.1
    unfold isStr at h1
    split at h1
    · exact scp_un _
    · cases h1
def strR (vs : List Value) : Bool := vs.all isStr && Nat.ble vs.length 1000
theorem strR_ok {vs : List Value} (h : strR vs = true) : vs = (vs.map unS).map scp ∧ vs.length ≤ 1000 := by
  simp only [strR, Bool.and_eq_true, Nat.ble_eq] at h
  exact ⟨str_un h.1, h.2⟩
theorem strR_map {l : List (List UInt8)} (h : l.length ≤ 1000) : strR (l.map scp) = true := by
  simp only [strR, Bool.and_eq_true, Nat.ble_eq, List.length_map]
  refine ⟨?_, h⟩
  rw [List.all_eq_true]
  intro v hv
  obtain ⟨s, _, rfl⟩ := List.mem_map.1 hv
  rfl
noncomputable def sortC (vs : List Value) : List Value := (srt (vs.map unS)).map scp
noncomputable def cutC (vs : List Value) : List Value := (cut (vs.map unS)).map scp
noncomputable def cutN (vs : List Value) : Nat := (Go.Lib.compact (vs.map unS)).length
noncomputable def spSort (f : FuncId) (args : Array Value) (h : AH) : Option (Bool × Value × AH) :=
  cond (Nat.beq f 66) (match args with
    | ⟨[.slice (some ⟨b, 0, none⟩) n c]⟩ => match h.get b with
      | some (.cells ⟨vs⟩ t (0, 0)) => some (strR vs && Nat.beq vs.length n, .tuple ⟨[]⟩, h.set b (.cells ⟨sortC vs⟩ t (0, 0)))
      | _ => none
    | _ => none) none
theorem spSort_ok : SpOK spSort := by
  intro f args h v h' hs
  unfold spSort at hs
  obtain ⟨hf, hs2⟩ := cond_some hs
  clear hs
  have := Nat.eq_of_beq_eq_true hf
  subst this
  split at hs2
  · rename_i b n c
    split at hs2
    · rename_i vs t hg
      injection hs2 with hs
      injection hs with hb hs
      injection hs with hv hh
      subst hv hh
      rw [Bool.and_eq_true] at hb
      obtain ⟨e, hl⟩ := strR_ok hb.1
      have hn := Nat.eq_of_beq_eq_true hb.2
      refine ⟨?_, Nat.le_refl _⟩
      have hlen : (vs.map unS).length = vs.length := List.length_map _
      have := sort_ok (c := c) (zs := vs.map unS) (by rw [← e]; exact hg) (by rw [hlen]; omega)
      rw [hlen, hn] at this
      exact this
    · cases hs2
  · cases hs2
noncomputable def spCut (f : FuncId) (args : Array Value) (h : AH) : Option (Bool × Value × AH) :=
  cond (Nat.beq f 67) (match args with
    | ⟨[.slice (some ⟨b, 0, none⟩) n c]⟩ => match h.get b with
      | some (.cells ⟨vs⟩ t (0, 0)) => some (strR vs && Nat.beq vs.length n && Nat.ble n c, .slice (some ⟨b, 0, none⟩) (cutN vs) c, h.set b (.cells ⟨cutC vs⟩ t (0, 0)))
      | _ => none
    | _ => none) none
theorem spCut_ok : SpOK spCut := by
  intro f args h v h' hs
  unfold spCut at hs
  obtain ⟨hf, hs2⟩ := cond_some hs
  clear hs
  have := Nat.eq_of_beq_eq_true hf
  subst this
  split at hs2
  · rename_i b n c
    split at hs2
    · rename_i vs t hg
      injection hs2 with hs
      injection hs with hb hs
      injection hs with hv hh
      subst hv hh
      rw [Bool.and_eq_true, Bool.and_eq_true, Nat.ble_eq] at hb
      obtain ⟨e, hl⟩ := strR_ok hb.1.1
      have hn := Nat.eq_of_beq_eq_true hb.1.2
      refine ⟨?_, Nat.le_refl _⟩
      have hlen : (vs.map unS).length = vs.length := List.length_map _
      have := cut_ok (zs := vs.map unS) (c := c) (by rw [← e]; exact hg) (by rw [hlen]; omega) (by rw [hlen, hn]; exact hb.2)
      rw [hlen, hn] at this
      exact this
    · cases hs2
  · cases hs2

/-- One of the ten. -/
def inTen (s : ByteArray) : Bool := ten.any fun t => beqN (t.map UInt8.toNat) (natsOf s)
theorem inTen_ok {s : ByteArray} (h : inTen s = true) : s.data.toList ∈ ten := by
  obtain ⟨t, h1, h2⟩ := List.any_eq_true.1 h
  have h3 : t.map UInt8.toNat = s.data.toList.map UInt8.toNat := beqN_eq h2
  rw [← (List.map_inj_right (fun x y => UInt8.toNat_inj.1)).1 h3]
  exact h1
theorem beqN_self : ∀ l : List Nat, beqN l l = true
  | [] => rfl
  | a :: l => by simp [beqN, beqN_self l]
theorem inTen_mk {x : List UInt8} (h : x ∈ ten) : inTen ⟨x.toArray⟩ = true := List.any_eq_true.2 ⟨x, h, beqN_self _⟩
def isTen : Value → Bool
  | .string s => inTen s
  | _ => false
def tenR (vs : List Value) : Bool := vs.all isTen && Nat.ble vs.length 50
theorem tenR_ok {vs : List Value} (h : tenR vs = true) : vs = (vs.map unS).map scp ∧ (∀ x ∈ vs.map unS, x ∈ ten) ∧ vs.length ≤ 50 := by
  simp only [tenR, Bool.and_eq_true, Nat.ble_eq] at h
  refine ⟨str_un ?_, ?_, h.2⟩
  · rw [List.all_eq_true]
    intro v hv
    have := List.all_eq_true.1 h.1 v hv
    unfold isTen at this
    split at this
    · rfl
    · cases this
  · intro x hx
    obtain ⟨v, hv, rfl⟩ := List.mem_map.1 hx
    have := List.all_eq_true.1 h.1 v hv
    unfold isTen at this
    split at this
    · exact inTen_ok this
    · cases this
theorem tenR_mk {l : List (List UInt8)} (h : ∀ x ∈ l, x ∈ ten) (hl : l.length ≤ 50) : tenR (l.map scp) = true := by
  simp only [tenR, Bool.and_eq_true, Nat.ble_eq, List.length_map]
  refine ⟨?_, hl⟩
  rw [List.all_eq_true]
  intro v hv
  obtain ⟨s, hs, rfl⟩ := List.mem_map.1 hv
  exact inTen_mk (h s hs)
def spIs (f : FuncId) (args : Array Value) (h : AH) : Option (Bool × Value × AH) :=
  cond (Nat.beq f 68) (match args with
    | ⟨[.string s]⟩ => some (inTen s, .bool true, h)
    | _ => none) none
theorem spIs_ok : SpOK spIs := by
  intro f args h v h' hs
  unfold spIs at hs
  obtain ⟨hf, hs2⟩ := cond_some hs
  clear hs
  have := Nat.eq_of_beq_eq_true hf
  subst this
  split at hs2
  · injection hs2 with hs
    injection hs with hb hs
    injection hs with hv hh
    subst hv hh
    rw [scp_un]
    exact ⟨isScope_call (inTen_ok hb) h, Nat.le_refl _⟩
  · cases hs2
def covS (a b : ByteArray) : Bool := covB a.data.toList b.data.toList
def spCv (f : FuncId) (args : Array Value) (h : AH) : Option (Bool × Value × AH) :=
  cond (Nat.beq f 35) (match args with
    | ⟨[.string a, .string b]⟩ => some (inTen a && inTen b, .bool (covS a b), h)
    | _ => none) none
theorem spCv_ok : SpOK spCv := by
  intro f args h v h' hs
  unfold spCv at hs
  obtain ⟨hf, hs2⟩ := cond_some hs
  clear hs
  have := Nat.eq_of_beq_eq_true hf
  subst this
  split at hs2
  · injection hs2 with hs
    injection hs with hb hs
    injection hs with hv hh
    subst hv hh
    rw [Bool.and_eq_true] at hb
    rw [scp_un, scp_un]
    exact ⟨covers_call (inTen_ok hb.1) (inTen_ok hb.2) h, Nat.le_refl _⟩
  · cases hs2
end Go.Proofs.YtklednomnpghcaaGreatDoor
