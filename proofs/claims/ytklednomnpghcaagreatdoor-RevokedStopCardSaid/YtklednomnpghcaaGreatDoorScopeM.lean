/-
  'Meet' and 'LeastScopes' as specifications.
-/
import Derived.Test.YtklednomnpghcaaGreatDoorScopeL
namespace Go.Ev
open Go.RowKit
/-- nil as the empty frozen list. -/
def nrm : Value → Value
  | .slice none 0 _ => fz ⟨[]⟩
  | v => v
theorem nrm_rel {N : Emb} {x x' : Value} (h : VRel N x x') : VRel N (nrm x) x' := by
  unfold nrm
  split
  · cases h
    exact .fz0 none _
  · exact h
def spNrm (sp : Ev.Spec) : Ev.Spec := fun f args h => sp f ⟨args.toList.map nrm⟩ h
end Go.Ev
namespace Go.Proofs.YtklednomnpghcaaGreatDoor
open Go.Ev Go.RowKit ScopeLaw

theorem SpOK.nrm {sp : Ev.Spec} (h : SpOK sp) : SpOK (spNrm sp) := by
  intro f args H v h' hs
  obtain ⟨hc, hl⟩ := h _ _ _ _ _ hs
  refine ⟨fun N w args' hargs hr hf => hc N w args' ⟨by rw [← hargs.1]; simp, fun i x x' a b => ?_⟩ hr hf, hl⟩
  have a : (args.toList.map Go.Ev.nrm)[i]? = some x := by simpa using a
  rw [List.getElem?_map] at a
  obtain ⟨y, hy, rfl⟩ := Option.map_eq_some_iff.1 a
  exact nrm_rel (hargs.2 i y x' (by simpa using hy) b)
def blk (cs : List Value) : AH := ⟨1, 1, [(0, .cells ⟨cs⟩ 9 (0, 0))]⟩
def outV : List ByteArray → Value
  | [] => .slice none 0 0
  | k :: l => .slice (some ⟨0, 0, none⟩) (k :: l).length (k :: l).length
def outH : List ByteArray → AH
  | [] => h0
  | k :: l => blk ((k :: l).map Value.string)
theorem nn_str (l : List ByteArray) (t : TypeId) (fr : Nat × Nat) : NoNames (.cells ⟨l.map Value.string⟩ t fr) := by
  intro v hv
  obtain ⟨s, _, rfl⟩ := List.mem_map.1 (show v ∈ l.map Value.string by simpa using hv)
  rfl
/-- At most four of the nine. -/
def fourR (vs : List Value) : Bool := vs.all isNine && Nat.ble vs.length 4
theorem fourR_nine {vs : List Value} (h : fourR vs = true) : nineR vs = true ∧ vs.length ≤ 4 := by
  simp only [fourR, nineR, Bool.and_eq_true, Nat.ble_eq] at h ⊢
  exact ⟨⟨h.1, by omega⟩, h.2⟩
theorem nineR_ten {vs : List Value} (h : nineR vs = true) : tenR vs = true := by
  obtain ⟨e, hin, h16, _⟩ := nineR_ok h
  rw [e]
  exact tenR_mk (fun x hx => nine_ten x (hin x hx)) (by simp; omega)
theorem str_scp (l : List ByteArray) : l.map Value.string = (l.map fun s => s.data.toList).map scp := by
  rw [List.map_map]
  exact List.map_congr_left fun s _ => scp_un s
theorem rising_nil : rising [] = [] := by
  have h := cut_le (srt [])
  rw [srt_len] at h
  exact List.eq_nil_of_length_eq_zero (Nat.le_zero.1 h)
end Go.Proofs.YtklednomnpghcaaGreatDoor
