/-
  Signers in a row: the law.
-/
import Derived.Test.YtfgjopjjajglhaaGreatDoorRtF
namespace Go.Proofs.YtfgjopjjajglhaaGreatDoor
open Go.Ev Go.RowKit RotLaw

def lastV (life : Int) (A : List Int) : Value := (gV life A).getD (A.length - 1) (Value.tuple { toList := [] })
noncomputable def lwGo (xs : Array Value) (life : Int) (F T : Prop) : Nat → Int → Int → List Int → Prop
  | 0, _, _, A => lastV life A = lastV life A ∧ bif okUn (gV life A) 0 (toInt ((lastV life A).cells.toList.getD 3 (Value.tuple { toList := [] }))) life then bif okG (gV life A) then T else False else False
  | n + 1, d, t, A => bif okRo (gV life A) (idS A.length) keyS t 100 life then bif okG (gV life (A ++ [t])) then
      bif decide (t ≥ 0) then bif !decide (t < 345686400000) then F else
        bif okSa (gV life (A ++ [t])) t then bif !((saW (gV life (A ++ [t])) t).id.toList == (idS A.length).toList) then F else
          bif allInts xs then lwGo xs life F T n (d + 1) (IntKind.i64.wrap (t + IntKind.i64.wrap (1 + nextR xs d 100))) (A ++ [t]) else False
        else False
      else F
    else False else False
noncomputable def lwT (xs : Array Value) (n : Nat) (F T : Prop) : Prop :=
  bif allInts xs then bif allInts xs && decide (1 + nextR xs 1 4 = ((n + 1 : Nat) : Int)) then
    bif okR0 (idS 0) keyS 0 100 (IntKind.i64.wrap (0 + nextR xs 0 51)) then bif okG (gV (IntKind.i64.wrap (0 + nextR xs 0 51)) [0]) then bif okSa (gV (IntKind.i64.wrap (0 + nextR xs 0 51)) [0]) 0 then
      bif allInts xs then lwGo xs (IntKind.i64.wrap (0 + nextR xs 0 51)) F T n 3 (IntKind.i64.wrap (0 + IntKind.i64.wrap (1 + nextR xs 2 100))) [0] else False
    else False else False else False else False else False
set_option maxRecDepth 20000 in
theorem lw1 (xs : Array Value) (Q : Value → Prop) : ffn Tryz.prog (SLw 1) [] 3000 [] Tryz.f3 [fz xs] h0 (fun v _ => Q v) = lwT xs 0 (Q (.bool false)) (Q (.bool true)) := by kernel_rfl
set_option maxRecDepth 20000 in
theorem lw2 (xs : Array Value) (Q : Value → Prop) : ffn Tryz.prog (SLw 2) [] 3000 [] Tryz.f3 [fz xs] h0 (fun v _ => Q v) = lwT xs 1 (Q (.bool false)) (Q (.bool true)) := by kernel_rfl
set_option maxRecDepth 20000 in
theorem lw3 (xs : Array Value) (Q : Value → Prop) : ffn Tryz.prog (SLw 3) [] 3000 [] Tryz.f3 [fz xs] h0 (fun v _ => Q v) = lwT xs 2 (Q (.bool false)) (Q (.bool true)) := by kernel_rfl
set_option maxRecDepth 20000 in
theorem lw4 (xs : Array Value) (Q : Value → Prop) : ffn Tryz.prog (SLw 4) [] 3000 [] Tryz.f3 [fz xs] h0 (fun v _ => Q v) = lwT xs 3 (Q (.bool false)) (Q (.bool true)) := by kernel_rfl
theorem someLW : Tryz.f3.body.isSome = true := by kernel_rfl
theorem sgs_last (life : Int) : ∀ (A : List Int) (i : Nat), A ≠ [] → ∃ L, sgs life i A = L ++ [⟨i + (A.length - 1), lastI A, lastI A + 100, lastI A + 100 + life⟩] ∧ L.length = A.length - 1
  | [], _, h => absurd rfl h
  | [a], i, _ => ⟨[], rfl, rfl⟩
  | a :: b :: r, i, _ => by
    obtain ⟨L, h, hl⟩ := sgs_last life (b :: r) (i + 1) (by simp)
    refine ⟨⟨i, a, b, a + 100 + life⟩ :: L, ?_, ?_⟩
    · show ⟨i, a, b, a + 100 + life⟩ :: sgs life (i + 1) (b :: r) = _
      rw [h]
      have e : i + 1 + ((b :: r).length - 1) = i + ((a :: b :: r).length - 1) := by simp only [List.length_cons]; omega
      rw [e]
      rfl
    · simp only [List.length_cons] at hl ⊢; omega
theorem lastI_app : ∀ (A : List Int) (t : Int), lastI (A ++ [t]) = t
  | [], _ => rfl
  | [_], _ => rfl
  | _ :: b :: r, t => lastI_app (b :: r) t
theorem good_ne {life : Int} {A : List Int} (h : Good life A) : A ≠ [] := by
  obtain ⟨⟨⟨r, rfl⟩, _, _⟩, _, _⟩ := h
  simp
theorem sa_last {life t : Int} {A : List Int} (h : Good life (A ++ [t])) (h0 : 0 ≤ t) : okSa (gV life (A ++ [t])) t = true ∧ (saW (gV life (A ++ [t])) t).id = idS A.length := by
  obtain ⟨a1, s, a2, a3, a4, _⟩ := sa_good (t := t) h h0 (by rw [lastI_app]; omega)
  obtain ⟨L, h1, _⟩ := sgs_last life (A ++ [t]) 0 (by simp)
  refine ⟨a1, ?_⟩
  rw [a4]
  rw [lastI_app] at h1
  have hk : okT t ⟨0 + ((A ++ [t]).length - 1), t, t + 100, t + 100 + life⟩ = true := by simp [okT]; omega
  unfold findS at a3
  rw [h1, List.reverse_append] at a3
  have a3 := (List.find?_cons_of_pos (l := L.reverse) hk).symm.trans a3
  injection a3 with a3
  subst a3
  show idS (0 + ((A ++ [t]).length - 1)) = _
  have : 0 + ((A ++ [t]).length - 1) = A.length := by simp
  rw [this]
theorem lastV_eq {life : Int} {A : List Int} (h : A ≠ []) : toInt ((lastV life A).cells.toList.getD 3 (Value.tuple { toList := [] })) = lastI A + 100 := by
  obtain ⟨L, h1, h2⟩ := sgs_last life A 0 h
  have : lastV life A = svV ⟨0 + (A.length - 1), lastI A, lastI A + 100, lastI A + 100 + life⟩ := by
    unfold lastV gV
    rw [h1, List.map_append, List.getD, List.getElem?_append_right (by rw [List.length_map]; omega)]
    simp [h2]
  rw [this]
  rfl
theorem lwGo_ok {zs : List Int} {life : Int} {F T : Prop} (hT : T) : ∀ (n : Nat) (d t : Int) (A : List Int), A.length + n ≤ 4 → Good life A → lastI A + 1 ≤ t → t ≤ lastI A + 100 → 0 ≤ d → d ≤ 100 - n → lwGo (intsV zs) life F T n d t A
  | 0, d, t, A, h1, h2, h3, h4, h5, h6 => ⟨rfl, need_mk (okUn_iff.2 ⟨A, h2, rfl, rfl, lastV_eq (good_ne h2)⟩) (need_mk (okG_iff.2 ⟨life, A, h2, rfl⟩) hT)⟩
  | n + 1, d, t, A, h1, h2, h3, h4, h5, h6 => by
    have hn : Next A t := ⟨by omega, h3, h4⟩
    have hg := good_next h2 hn
    obtain ⟨l1, l2⟩ := last_in h2
    obtain ⟨s1, s2⟩ := sa_last hg (by omega)
    have hb := (nextR_spec zs 100 d (by omega) (by omega) (by omega) (by omega)).1
    have hw : IntKind.i64.wrap (t + IntKind.i64.wrap (1 + nextR (intsV zs) d 100)) = t + (1 + nextR (intsV zs) d 100) := by
      rw [wrap_id (1 + nextR (intsV zs) d 100) (by omega) (by omega), wrap_id _ (by omega) (by omega)]
    refine need_mk (okRo_iff.2 ⟨A, h2, hn, rfl, rfl, rfl, rfl⟩) (need_mk (okG_iff.2 ⟨life, _, hg, rfl⟩) (pick_t (decide_eq_true (by omega)) (pick_f (by rw [decide_eq_true (by omega)]; rfl) (need_mk s1 (pick_f (by rw [s2]; simp) (need_mk (allInts_intsV zs) ?_))))))
    rw [hw]
    exact lwGo_ok hT n (d + 1) _ _ (by rw [List.length_append]; simp; omega) hg (by rw [lastI_app]; omega) (by rw [lastI_app]; omega) (by omega) (by omega)
theorem lwT_ok {zs : List Int} {F T : Prop} (hT : T) {n : Nat} (hn : n ≤ 3) (h : nextR (intsV zs) 1 4 = (n : Int)) : lwT (intsV zs) n F T := by
  have hb := (nextR_spec zs 51 0 (by omega) (by omega) (by omega) (by omega)).1
  have hc := (nextR_spec zs 100 2 (by omega) (by omega) (by omega) (by omega)).1
  unfold lwT
  rw [wrap_id (0 + nextR (intsV zs) 0 51) (by omega) (by omega), wrap_id (1 + nextR (intsV zs) 2 100) (by omega) (by omega), wrap_id (0 + (1 + nextR (intsV zs) 2 100)) (by omega) (by omega)]
  have hg : Good (0 + nextR (intsV zs) 0 51) [0] := ⟨⟨⟨[], rfl⟩, by simp, trivial⟩, by omega, by omega⟩
  obtain ⟨s1, _⟩ := sa_last (A := []) (t := 0) hg (by omega)
  have hal := allInts_intsV zs
  refine need_mk hal (need_mk (by rw [hal, h]; simp; omega) (need_mk (okR0_iff.2 ⟨rfl, rfl, rfl, rfl, by omega, by omega⟩) (need_mk (okG_iff.2 ⟨_, _, hg, rfl⟩) (need_mk s1 (need_mk hal ?_)))))
  exact lwGo_ok hT n 3 _ [0] (by simp; omega) hg (by simp [lastI]; omega) (by simp [lastI]; omega) (by omega) (by omega)
end Go.Proofs.YtfgjopjjajglhaaGreatDoor
