/-
  Tokens: accepted, revoked, pruned.
-/
import Derived.Test.YtklednomnpghcaaGreatDoorRvH
import Derived.Test.YtklednomnpghcaaGreatDoorScopeQ
namespace Go.Proofs.YtklednomnpghcaaGreatDoor
open Go.Ev Go.RowKit RecLaw PathLaw QueryLaw B64Law

def r1V (id : ByteArray) (stop til : Int) : Value := .agg ⟨[.string id, .int .i64 stop, .int .i64 til]⟩
noncomputable def kV (rev : Value) : Value := .agg ⟨[.string (bl ([103, 97, 116, 101] : Bs)), .string (bl ([115, 104, 111, 112] : Bs)), sgs, rev, .slice none 0 0, .int .i64 0]⟩
noncomputable def SAa (cv tok : Value) (at_ : Int) : SC := ⟨idn, spOr (spT 56 [sgs] (.int .i64 0)) (spOr spKy (spT 108 [sgs, tok, .int .i64 at_] (.tuple ⟨[cv, .int .i64 0]⟩))), false, false⟩
/-- What a keeper without revoked tokens says. -/
noncomputable def aaN (tok : Value) (fr til at_ : Int) (X Y : Prop) : Prop := tqT [sgs] (tqT [sgs, tok, .int .i64 at_] (bif decide (at_ < W (fr - 0)) then Y else bif decide (at_ ≥ W (til + 0)) then Y else X))
noncomputable def aaS (id : ByteArray) (stop til2 : Int) (tok : Value) (fr til at_ : Int) (X Y Z E : Prop) : Prop := tqT [sgs] (bif inKey id then bif decide (stop < 0) then E else bif decide (stop > til2) then E else bif decide (til2 > 345686400000) then E else
  tqT [sgs, tok, .int .i64 at_] (bif decide (at_ < W (fr - 0)) then Y else bif decide (at_ ≥ W (til + 0)) then Y else bif id.toList == id.toList then (bif decide (stop ≤ at_) then Z else X) else bif id.toList == (ByteArray.mk #[]).toList then (bif decide (stop ≤ at_) then Z else X) else X) else False)
noncomputable def SRk (cv : Value) : SC := ⟨idn, spT 38 [cv] (.int .i64 0), false, true⟩
noncomputable def SPr : SC := ⟨idn, spKy, false, true⟩
theorem SPr_ok : SPr.cfg.OK Tryz.prog := spKy_ok.cfg
theorem pre (id : ByteArray) (stop til at_ : Int) (Q : Value → Option Obj → Prop) : ffn Tryz.prog SPr [] 900 [] Tryz.f17 [fz ⟨[r1V id stop til]⟩, .int .i64 at_] h0 (fun v h => Q v (h.get 3)) =
    bif inKey id then bif decide (stop < 0) then Q (.tuple ⟨[.slice none 0 0, .int .i64 1]⟩) none else bif decide (stop > til) then Q (.tuple ⟨[.slice none 0 0, .int .i64 1]⟩) none else bif decide (til > 345686400000) then Q (.tuple ⟨[.slice none 0 0, .int .i64 1]⟩) none else
      bif decide (at_ ≥ 0) then bif !decide (at_ < 345686400000) then Q (.tuple ⟨[.slice none 0 0, .int .i64 1]⟩) none else
        bif decide (til ≤ at_) then Q (.tuple ⟨[.slice (some ⟨3, 0, none⟩) 0 1, .int .i64 0]⟩) (some (.cells ⟨[.string ⟨#[]⟩, .int .i64 0, .int .i64 0]⟩ 53 (0, 0)))
        else Q (.tuple ⟨[.slice (some ⟨3, 0, none⟩) 1 1, .int .i64 0]⟩) (some (.cells ⟨[.string id, .int .i64 stop, .int .i64 til]⟩ 53 (0, 0)))
      else Q (.tuple ⟨[.slice none 0 0, .int .i64 1]⟩) none else False := by kernel_rfl
set_option maxRecDepth 20000 in
theorem aaNN (id sub tok : ByteArray) (fr til at_ : Int) (Q : Value → Prop) : ffn Tryz.prog (SAa (clV id sub gtB (.slice none 0 0) fr til) (.string tok) at_) [] 900 [] Tryz.f25 [kV (.slice none 0 0), .string tok, .int .i64 at_] h0 (fun v _ => Q v) =
    aaN (.string tok) fr til at_ (Q (.tuple ⟨[clV id sub gtB (.slice none 0 0) fr til, .int .i64 0]⟩)) (Q (zE 11)) := by kernel_rfl
set_option maxRecDepth 20000 in
theorem aaSN (id sub tok : ByteArray) (fr til at_ stop til2 : Int) (Q : Value → Prop) : ffn Tryz.prog (SAa (clV id sub gtB (.slice none 0 0) fr til) (.string tok) at_) [] 900 [] Tryz.f25 [kV (fz ⟨[r1V id stop til2]⟩), .string tok, .int .i64 at_] h0 (fun v _ => Q v) =
    aaS id stop til2 (.string tok) fr til at_ (Q (.tuple ⟨[clV id sub gtB (.slice none 0 0) fr til, .int .i64 0]⟩)) (Q (zE 11)) (Q (zE 13)) (Q (zE 1)) := by kernel_rfl
theorem rveN (id sub : ByteArray) (fr til stop : Int) (Q : Value → Option Obj → Prop) : ffn Tryz.prog (SRk (clV id sub gtB (.slice none 0 0) fr til)) [] 900 [] Tryz.f15 [.slice none 0 0, (clV id sub gtB (.slice none 0 0) fr til), .int .i64 stop] h0 (fun v h => Q v (h.get 2)) =
    tqT [(clV id sub gtB (.slice none 0 0) fr til)] (bif decide (stop ≥ 0) then bif !decide (stop < 345686400000) then Q (.tuple ⟨[.slice none 0 0, .int .i64 1]⟩) none else bif decide (til ≤ stop) then Q (.tuple ⟨[.slice none 0 0, .int .i64 0]⟩) none else
      Q (.tuple ⟨[.slice (some ⟨2, 0, none⟩) 1 1, .int .i64 0]⟩) (some (.cells ⟨[.string id, .int .i64 stop, .int .i64 til]⟩ 53 (0, 0))) else Q (.tuple ⟨[.slice none 0 0, .int .i64 1]⟩) none) := by kernel_rfl
set_option maxRecDepth 20000 in
theorem aaNM (id sub tok : ByteArray) (S : List Value) (fr til at_ : Int) (Q : Value → Prop) : ffn Tryz.prog (SAa (clV id sub gtB (fz ⟨S⟩) fr til) (.string tok) at_) [] 900 [] Tryz.f25 [kV (.slice none 0 0), .string tok, .int .i64 at_] h0 (fun v _ => Q v) =
    aaN (.string tok) fr til at_ (Q (.tuple ⟨[clV id sub gtB (fz ⟨S⟩) fr til, .int .i64 0]⟩)) (Q (zE 11)) := by kernel_rfl
set_option maxRecDepth 20000 in
theorem aaSM (id sub tok : ByteArray) (S : List Value) (fr til at_ stop til2 : Int) (Q : Value → Prop) : ffn Tryz.prog (SAa (clV id sub gtB (fz ⟨S⟩) fr til) (.string tok) at_) [] 900 [] Tryz.f25 [kV (fz ⟨[r1V id stop til2]⟩), .string tok, .int .i64 at_] h0 (fun v _ => Q v) =
    aaS id stop til2 (.string tok) fr til at_ (Q (.tuple ⟨[clV id sub gtB (fz ⟨S⟩) fr til, .int .i64 0]⟩)) (Q (zE 11)) (Q (zE 13)) (Q (zE 1)) := by kernel_rfl
theorem rveM (id sub : ByteArray) (S : List Value) (fr til stop : Int) (Q : Value → Option Obj → Prop) : ffn Tryz.prog (SRk (clV id sub gtB (fz ⟨S⟩) fr til)) [] 900 [] Tryz.f15 [.slice none 0 0, (clV id sub gtB (fz ⟨S⟩) fr til), .int .i64 stop] h0 (fun v h => Q v (h.get 2)) =
    tqT [(clV id sub gtB (fz ⟨S⟩) fr til)] (bif decide (stop ≥ 0) then bif !decide (stop < 345686400000) then Q (.tuple ⟨[.slice none 0 0, .int .i64 1]⟩) none else bif decide (til ≤ stop) then Q (.tuple ⟨[.slice none 0 0, .int .i64 0]⟩) none else
      Q (.tuple ⟨[.slice (some ⟨2, 0, none⟩) 1 1, .int .i64 0]⟩) (some (.cells ⟨[.string id, .int .i64 stop, .int .i64 til]⟩ 53 (0, 0))) else Q (.tuple ⟨[.slice none 0 0, .int .i64 1]⟩) none) := by kernel_rfl
theorem someAC : Tryz.f25.body.isSome = true := by kernel_rfl
theorem someRVK : Tryz.f15.body.isSome = true := by kernel_rfl
theorem somePRU : Tryz.f17.body.isSome = true := by kernel_rfl
theorem freezeK {p : Nat} {P : Program} {h : AH} {b : Nat} {t : TypeId} {fr : Nat × Nat} (cs : List Value) {id : ByteArray} {stop til : Int} (hb : h.get b = some (.cells ⟨[.string id, .int .i64 stop, .int .i64 til]⟩ t fr)) :
    Weak p P #[.tuple ⟨cs⟩] h #[.tuple ⟨cs.map (frz1 b 1 1 (fz ⟨[r1V id stop til]⟩))⟩] (h.del b) := by
  refine Weak.freezeIn (n := 1) (cap := 1) b 3 ⟨[r1V id stop til]⟩ hb ?_ rfl (Nat.le_refl _) (by simp) ?_ ?_ rfl ?_
  · intro v hv
    simp only [List.mem_cons, List.not_mem_nil, or_false] at hv
    rcases hv with rfl | rfl | rfl <;> rfl
  · intro i x hx
    match i, hx with
    | 0, hx => simp at hx; subst hx; rfl
    | i + 1, hx => simp at hx
  · intro i j x v hx hv
    match i, hx with
    | 0, hx =>
      simp at hx
      subst hx
      match j, hv with
      | 0, hv => simpa [Value.cells, r1V] using hv
      | 1, hv => simpa [Value.cells, r1V] using hv
      | 2, hv => simpa [Value.cells, r1V] using hv
      | j + 3, hv => simp [Value.cells, r1V] at hv
    | i + 1, hx => simp at hx
  · intro i
    match i with
    | 0 => exact .inr ⟨_, rfl, rfl⟩
    | i + 1 => exact .inl (by simp)
/-- The keeper's moments. -/
structure AtOk (c : Ck) (at_ stop : Int) : Prop where
  fr : (c.fr : Int) ≤ at_
  til : at_ < (c.til : Int)
  s0 : 0 ≤ stop
  s1 : stop < (c.til : Int)
  key : inKey (bl c.id) = true
theorem ky_p (c : Ck) (stop til : Int) : p2 (fz ⟨[r1V (bl c.id) stop til]⟩) = true := rfl
theorem acN_fn {c : Ck} {sm : Bs} (h : TkOk c sm) {at_ stop : Int} (ha : AtOk c at_ stop) : FnOK 0 Tryz.prog 25 ⟨[kV (.slice none 0 0), strV (tokT c.text sm), .int .i64 at_]⟩ h0 (fun v _ => v = .tuple ⟨[c.v, .int .i64 0]⟩) := by
  obtain ⟨a1, a2, a3, a4, a5⟩ := ha
  have ht := til_in _ h.ck.til
  have hop := op_fn h (at_ := at_) (by omega) (by omega)
  have hp := v_p3 c
  have w1 : W ((c.fr : Int) - 0) = (c.fr : Int) := by unfold W; rw [wrap_id _ (by omega) (by omega)]; omega
  have w2 : W ((c.til : Int) + 0) = (c.til : Int) := by unfold W; rw [wrap_id _ (by omega) (by omega)]; omega
  have hsp : (SAa c.v (strV (tokT c.text sm)) at_).cfg.OK Tryz.prog := ((spT_ok (xs := [sgs]) cs_fn rfl rfl).or (spKy_ok.or (spT_ok (xs := [sgs, strV (tokT c.text sm), .int .i64 at_]) hop rfl (by show (p3 c.v && _) = true; rw [hp]; rfl)))).cfg
  have hT : aaN (strV (tokT c.text sm)) (c.fr : Int) (c.til : Int) at_ ((fun v : Value => v = .tuple ⟨[c.v, .int .i64 0]⟩) (.tuple ⟨[c.v, .int .i64 0]⟩)) ((fun v : Value => v = .tuple ⟨[c.v, .int .i64 0]⟩) (zE 11)) := by
    unfold aaN
    rw [w1, w2]
    exact tqT_mk (tqT_mk (pick_f (decide_eq_false (by omega)) (pick_f (decide_eq_false (by omega)) rfl)))
  unfold Ck.v at hsp hT ⊢
  cases hS : c.S with
  | nil =>
    rw [hS] at hsp hT
    exact FnOK.ftree hsp mixed Tryz.func25 someAC (aaNN _ _ _ _ _ _ _) hT
  | cons s l =>
    rw [hS] at hsp hT
    exact FnOK.ftree hsp mixed Tryz.func25 someAC (aaNM _ _ _ _ _ _ _ _) hT
noncomputable def acR (c : Ck) (at_ stop : Int) : Value := if stop ≤ at_ then zE 13 else .tuple ⟨[c.v, .int .i64 0]⟩
theorem acS_fn {c : Ck} {sm : Bs} (h : TkOk c sm) {at_ stop : Int} (ha : AtOk c at_ stop) : FnOK 0 Tryz.prog 25 ⟨[kV (fz ⟨[r1V (bl c.id) stop (c.til : Int)]⟩), strV (tokT c.text sm), .int .i64 at_]⟩ h0 (fun v _ => v = acR c at_ stop) := by
  obtain ⟨a1, a2, a3, a4, a5⟩ := ha
  have ht := til_in _ h.ck.til
  have hop := op_fn h (at_ := at_) (by omega) (by omega)
  have hp := v_p3 c
  have w1 : W ((c.fr : Int) - 0) = (c.fr : Int) := by unfold W; rw [wrap_id _ (by omega) (by omega)]; omega
  have w2 : W ((c.til : Int) + 0) = (c.til : Int) := by unfold W; rw [wrap_id _ (by omega) (by omega)]; omega
  have hsp : (SAa c.v (strV (tokT c.text sm)) at_).cfg.OK Tryz.prog := ((spT_ok (xs := [sgs]) cs_fn rfl rfl).or (spKy_ok.or (spT_ok (xs := [sgs, strV (tokT c.text sm), .int .i64 at_]) hop rfl (by show (p3 c.v && _) = true; rw [hp]; rfl)))).cfg
  have hT : aaS (bl c.id) stop (c.til : Int) (strV (tokT c.text sm)) (c.fr : Int) (c.til : Int) at_ ((fun v : Value => v = acR c at_ stop) (.tuple ⟨[c.v, .int .i64 0]⟩)) ((fun v : Value => v = acR c at_ stop) (zE 11)) ((fun v : Value => v = acR c at_ stop) (zE 13)) ((fun v : Value => v = acR c at_ stop) (zE 1)) := by
    unfold aaS
    rw [w1, w2]
    refine tqT_mk (need_mk a5 (pick_f (decide_eq_false (by omega)) (pick_f (decide_eq_false (by omega)) (pick_f (decide_eq_false (by omega)) (tqT_mk (pick_f (decide_eq_false (by omega)) (pick_f (decide_eq_false (by omega)) (pick_t (beq_self_eq_true _) ?_))))))))
    by_cases hq : stop ≤ at_
    · exact pick_t (decide_eq_true hq) (by unfold acR; rw [if_pos hq])
    · exact pick_f (decide_eq_false hq) (by unfold acR; rw [if_neg hq])
  unfold acR at hT ⊢
  unfold Ck.v at hsp hT ⊢
  cases hS : c.S with
  | nil =>
    rw [hS] at hsp hT
    exact FnOK.ftree hsp mixed Tryz.func25 someAC (aaSN _ _ _ _ _ _ _ _ _) hT
  | cons s l =>
    rw [hS] at hsp hT
    exact FnOK.ftree hsp mixed Tryz.func25 someAC (aaSM _ _ _ _ _ _ _ _ _ _) hT
theorem rv_fn {c : Ck} (h : CkOk c) {at_ stop : Int} (ha : AtOk c at_ stop) : FnOK 0 Tryz.prog 15 ⟨[.slice none 0 0, c.v, .int .i64 stop]⟩ h0 (fun v _ => v = .tuple ⟨[fz ⟨[r1V (bl c.id) stop (c.til : Int)]⟩, .int .i64 0]⟩) := by
  obtain ⟨a1, a2, a3, a4, a5⟩ := ha
  have ht := til_in _ h.til
  have hcc := h.cc
  have hp := v_p2 c
  have hsp : (SRk c.v).cfg.OK Tryz.prog := (spT_ok (xs := [c.v]) hcc hp rfl).cfg
  have hF : FnOK 0 Tryz.prog 15 ⟨[.slice none 0 0, c.v, .int .i64 stop]⟩ h0 (fun v g => v = .tuple ⟨[.slice (some ⟨2, 0, none⟩) 1 1, .int .i64 0]⟩ ∧ g.get 2 = some (.cells ⟨[.string (bl c.id), .int .i64 stop, .int .i64 (c.til : Int)]⟩ 53 (0, 0))) := by
    unfold Ck.v at hsp ⊢
    cases hS : c.S with
    | nil =>
      rw [hS] at hsp
      refine FnOK.ftree hsp mixed Tryz.func15 someRVK (rveN (bl c.id) (bl c.sub) (c.fr : Int) (c.til : Int) stop (fun v o => v = .tuple ⟨[.slice (some ⟨2, 0, none⟩) 1 1, .int .i64 0]⟩ ∧ o = some (.cells ⟨[.string (bl c.id), .int .i64 stop, .int .i64 (c.til : Int)]⟩ 53 (0, 0)))) (tqT_mk (pick_t (decide_eq_true (by omega)) (pick_f (by rw [decide_eq_true (by omega)]; rfl) (pick_f (decide_eq_false (by omega)) ⟨rfl, rfl⟩))))
    | cons s l =>
      rw [hS] at hsp
      refine FnOK.ftree hsp mixed Tryz.func15 someRVK (rveM (bl c.id) (bl c.sub) _ (c.fr : Int) (c.til : Int) stop (fun v o => v = .tuple ⟨[.slice (some ⟨2, 0, none⟩) 1 1, .int .i64 0]⟩ ∧ o = some (.cells ⟨[.string (bl c.id), .int .i64 stop, .int .i64 (c.til : Int)]⟩ 53 (0, 0)))) (tqT_mk (pick_t (decide_eq_true (by omega)) (pick_f (by rw [decide_eq_true (by omega)]; rfl) (pick_f (decide_eq_false (by omega)) ⟨rfl, rfl⟩))))
  refine FnOK.weak1 (hF.mono ?_)
  rintro v g ⟨rfl, hg⟩
  exact ⟨_, _, freezeK _ hg, rfl⟩
theorem pr_fn {c : Ck} (h : CkOk c) {at_ stop : Int} (ha : AtOk c at_ stop) : FnOK 0 Tryz.prog 17 ⟨[fz ⟨[r1V (bl c.id) stop (c.til : Int)]⟩, .int .i64 at_]⟩ h0 (fun v _ => v = .tuple ⟨[fz ⟨[r1V (bl c.id) stop (c.til : Int)]⟩, .int .i64 0]⟩) := by
  obtain ⟨a1, a2, a3, a4, a5⟩ := ha
  have ht := til_in _ h.til
  refine FnOK.weak1 ((FnOK.ftree SPr_ok mixed Tryz.func17 somePRU (pre (bl c.id) stop (c.til : Int) at_ (fun v o => v = .tuple ⟨[.slice (some ⟨3, 0, none⟩) 1 1, .int .i64 0]⟩ ∧ o = some (.cells ⟨[.string (bl c.id), .int .i64 stop, .int .i64 (c.til : Int)]⟩ 53 (0, 0))))
    (need_mk a5 (pick_f (decide_eq_false (by omega)) (pick_f (decide_eq_false (by omega)) (pick_f (decide_eq_false (by omega)) (pick_t (decide_eq_true (by omega)) (pick_f (by rw [decide_eq_true (by omega)]; rfl) (pick_f (decide_eq_false (by omega)) ⟨rfl, rfl⟩)))))))).mono ?_)
  rintro v g ⟨rfl, hg⟩
  exact ⟨_, _, freezeK _ hg, rfl⟩
end Go.Proofs.YtklednomnpghcaaGreatDoor
