/-
  Requests: what Normal asks, as specifications.
-/
import Derived.Test.YtnaeehnkabojdaaGreatDoorQuL
namespace Go.Proofs.YtnaeehnkabojdaaGreatDoor
open Go.Ev Go.RowKit RecLaw PathLaw QueryLaw

def okAsc (s : ByteArray) : Bool := Nat.ble s.size 100000 && s.data.toList.all fun b => decide (b.toNat < 128)
noncomputable def spUp (f : FuncId) (args : Array Value) (h : AH) : Option (Bool × Value × AH) :=
  cond (Nat.beq f 37) (match args with
    | ⟨[.string s]⟩ => some (okAsc s, .string (bl (Lib.toUpperA s.data.toList)), h)
    | _ => none) none
theorem spUp_ok : SpOK spUp := by
  intro f args h v h' hs
  unfold spUp at hs
  obtain ⟨hf, hs2⟩ := cond_some hs
  clear hs
  have := Nat.eq_of_beq_eq_true hf
  subst this
  split at hs2
  · injection hs2 with hs
    injection hs with hb hs
    injection hs with hv hh
    subst hv hh
    rename_i s
    unfold okAsc at hb
    simp only [Bool.and_eq_true, List.all_eq_true, decide_eq_true_eq] at hb
    obtain ⟨b1, b2⟩ := hb
    have b1 := Nat.le_of_ble_eq_true b1
    refine ⟨flat_call (args := [.string s]) rfl rfl fun w => ?_, Nat.le_refl _⟩
    exact Tryz.strings_ToUpper_ascii s w (by omega) (fun j b hj => b2 b (List.mem_of_getElem? hj))
  · cases hs2
noncomputable def spLo (f : FuncId) (args : Array Value) (h : AH) : Option (Bool × Value × AH) :=
  cond (Nat.beq f 19) (match args with
    | ⟨[.string s]⟩ => some (okAsc s, .string (bl (Lib.toLowerA s.data.toList)), h)
    | _ => none) none
theorem spLo_ok : SpOK spLo := by
  intro f args h v h' hs
  unfold spLo at hs
  obtain ⟨hf, hs2⟩ := cond_some hs
  clear hs
  have := Nat.eq_of_beq_eq_true hf
  subst this
  split at hs2
  · injection hs2 with hs
    injection hs with hb hs
    injection hs with hv hh
    subst hv hh
    rename_i s
    unfold okAsc at hb
    simp only [Bool.and_eq_true, List.all_eq_true, decide_eq_true_eq] at hb
    obtain ⟨b1, b2⟩ := hb
    have b1 := Nat.le_of_ble_eq_true b1
    refine ⟨flat_call (args := [.string s]) rfl rfl fun w => ?_, Nat.le_refl _⟩
    exact Tryz.strings_ToLower_ascii s w (by omega) (fun j b hj => b2 b (List.mem_of_getElem? hj))
  · cases hs2

/-- CheckRequest, where its answer is known. -/
noncomputable def spCrE (e : Int) (f : FuncId) (args : Array Value) (h : AH) : Option (Bool × Value × AH) :=
  cond (Nat.beq f 14) (match args with
    | ⟨[v]⟩ => some (okRq v && decide (crE (unR v) = e), .int .i64 e, h)
    | _ => none) none
theorem spCrE_ok (e : Int) : SpOK (spCrE e) := by
  intro f args h v h' hs
  unfold spCrE at hs
  obtain ⟨hf, hs2⟩ := cond_some hs
  clear hs
  have := Nat.eq_of_beq_eq_true hf
  subst this
  split at hs2
  · rename_i v
    injection hs2 with hs
    injection hs with hb hs
    injection hs with hv hh
    subst hv hh
    rw [Bool.and_eq_true, decide_eq_true_eq] at hb
    obtain ⟨b1, b2⟩ := hb
    obtain ⟨r, hr, rfl⟩ := okRq_iff.1 b1
    rw [unR_rq] at b2
    have hF := cr_fn hr
    rw [b2] at hF
    exact ⟨FnOK.pure hF (by show (p2 _ && true) = true; rw [p2_rq]; rfl) rfl h, Nat.le_refl _⟩
  · cases hs2
/-- ParseQuery without pairs. -/
noncomputable def spPq0 (f : FuncId) (args : Array Value) (h : AH) : Option (Bool × Value × AH) :=
  cond (Nat.beq f 8) (match args with
    | ⟨[.string s]⟩ => some (LE2 s && (pqL s.data.toList).isEmpty, .tuple ⟨[.slice none 0 0, .int .i64 (pqE s.data.toList)]⟩, h)
    | _ => none) none
theorem spPq0_ok : SpOK spPq0 := by
  intro f args h v h' hs
  unfold spPq0 at hs
  obtain ⟨hf, hs2⟩ := cond_some hs
  clear hs
  have := Nat.eq_of_beq_eq_true hf
  subst this
  split at hs2
  · injection hs2 with hs
    injection hs with hb hs
    injection hs with hv hh
    subst hv hh
    rename_i s
    rw [Bool.and_eq_true] at hb
    have := pq_none (s := s.data.toList) (Nat.le_of_ble_eq_true hb.1) (List.isEmpty_iff.1 hb.2)
    rw [bl_self] at this
    exact ⟨FnOK.pure this rfl rfl h, Nat.le_refl _⟩
  · cases hs2
/-- ParseQuery with pairs: a new row. -/
noncomputable def spPq1 (f : FuncId) (args : Array Value) (h : AH) : Option (Bool × Value × AH) :=
  cond (Nat.beq f 8) (match args with
    | ⟨[.string s]⟩ => some (LE2 s && !(pqL s.data.toList).isEmpty, .tuple ⟨[.slice (some ⟨h.next, 0, none⟩) (pqL s.data.toList).length (pqL s.data.toList).length, .int .i64 0]⟩, h.push (.cells ⟨(pqL s.data.toList).flatMap prC⟩ 30 (0, 0)))
    | _ => none) none
theorem spPq1_ok : SpOK spPq1 := by
  intro f args h v h' hs
  unfold spPq1 at hs
  obtain ⟨hf, hs2⟩ := cond_some hs
  clear hs
  have := Nat.eq_of_beq_eq_true hf
  subst this
  split at hs2
  · rename_i s
    injection hs2 with hs
    injection hs with hb hs
    injection hs with hv hh
    subst hv hh
    rw [Bool.and_eq_true] at hb
    have hne : pqL s.data.toList ≠ [] := fun q => by rw [q] at hb; exact Bool.noConfusion hb.2
    have := pq_some (s := s.data.toList) (Nat.le_of_ble_eq_true hb.1) hne
    rw [bl_self] at this
    refine ⟨FnOK.new1 (u := .tuple ⟨[.slice (some ⟨0, 0, none⟩) (pqL s.data.toList).length (pqL s.data.toList).length, .int .i64 0]⟩) (this.mono ?_) rfl (fun x hx => p1_prC x hx) (by simp [ren2, renL, ren1, ren0, renB, show p1 (Value.int .i64 0) = true from rfl]), Nat.le_succ _⟩
    rintro v g ⟨rfl, hg⟩
    exact ⟨0, by simp [ren2, renL, ren1, ren0, renB, show p1 (Value.int .i64 0) = true from rfl], hg⟩
  · cases hs2
noncomputable def SNm (e : Int) (row : Bool) : SC := ⟨idn, spOr (spCrE e) (spOr spNh (spOr spNp (spOr (cond row spPq1 spPq0) (spOr spDf (spOr spSf (spOr spQt (spOr spUp spLo))))))), false, true⟩
theorem SNm_ok (e : Int) (row : Bool) : (SNm e row).cfg.OK Tryz.prog := ((spCrE_ok e).or (spNh_ok.or (spNp_ok.or ((show SpOK (cond row spPq1 spPq0) from by cases row; exact spPq0_ok; exact spPq1_ok).or (spDf_ok.or (spSf_ok.or (spQt_ok.or (spUp_ok.or spLo_ok)))))))).cfg
end Go.Proofs.YtnaeehnkabojdaaGreatDoor
