/-
  Limits: the law.
-/
import Derived.Test.YteeomeididcdlaaGreatDoorLmK
namespace Go.Proofs.YteeomeididcdlaaGreatDoor
open Go.Ev Go.RowKit LimLaw

noncomputable def spLr (zs : List Int) (c m p q d : Int) (f : FuncId) (args : Array Value) (h : AH) : Option (Bool × Value × AH) :=
  cond (Nat.beq f 6) (match args with
    | ⟨[.pointer (some ⟨b, 0, none⟩), .string k]⟩ => match h.get b with
      | some (.cells ⟨[x, .int .i64 at_]⟩ t (0, 0)) => some (eqV x (fz (intsV zs)) && Nat.beq t 25 && decide (at_ = 0) && eqV (.string k) (.string keyB), lmV keyB c m p q, h.set b (strm (intsV zs) d))
      | _ => none
    | _ => none) none
theorem spLr_ok {zs : List Int} {c m p q d : Int} (hr : ∀ Q : Value → Option Obj → Prop, Q (lmV keyB c m p q) (some (strm (intsV zs) d)) → rlT (intsV zs) 0 keyB Q) : SpOK (spLr zs c m p q d) := by
  intro f args h v h' hs
  unfold spLr at hs
  obtain ⟨hf, hs2⟩ := cond_some hs
  clear hs
  have := Nat.eq_of_beq_eq_true hf
  subst this
  split at hs2
  · rename_i b k
    split at hs2
    · rename_i x at_ t hg
      injection hs2 with hs
      injection hs with hb hs
      injection hs with hv hh
      subst hv hh
      simp only [Bool.and_eq_true, decide_eq_true_eq] at hb
      obtain ⟨⟨⟨b1, b2⟩, rfl⟩, b4⟩ := hb
      have := eqV_eq b1
      subst this
      have b2 := Nat.eq_of_beq_eq_true b2
      subst b2
      have b4 := eqV_eq b4
      injection b4 with b4
      subst b4
      exact ⟨FnOK.ref (cs := ⟨[fz (intsV zs), .int .i64 0]⟩) (cs' := ⟨[fz (intsV zs), .int .i64 d]⟩) (args := [.string keyB]) (rl_fn hr) rfl (by simp [p1, fz]) (by simp [p1, fz]) rfl hg, Nat.le_refl _⟩
    · cases hs2
  · cases hs2
noncomputable def spRt (c m p q : Int) (xs vs : List Value) (f : FuncId) (args : Array Value) (h : AH) : Option (Bool × Value × AH) :=
  cond (Nat.beq f 16) (match args with
    | ⟨[.slice (some ⟨b, 0, none⟩) 1 1, x]⟩ => match h.get b with
      | some (.cells ⟨cs⟩ t (0, 0)) => some (eqV (.agg ⟨cs⟩) (lmV keyB c m p q) && Nat.beq t 27 && eqV x (fz ⟨xs⟩), .tuple ⟨[fz ⟨vs⟩, .int .i64 0]⟩, h)
      | _ => none
    | _ => none) none
theorem spRt_ok {c m p q : Int} {xs vs : List Value} (hF : FnOK 1 Tryz.prog 16 ⟨[.slice (some ⟨0, 0, none⟩) 1 1, fz ⟨xs⟩]⟩ (clH (lmC keyB c m p q)) (fun v g => v = .tuple ⟨[fz ⟨vs⟩, .int .i64 0]⟩ ∧ g.get 0 = some (.cells ⟨lmC keyB c m p q⟩ 27 (0, 0)))) : SpOK (spRt c m p q xs vs) := by
  intro f args h v h' hs
  unfold spRt at hs
  obtain ⟨hf, hs2⟩ := cond_some hs
  clear hs
  have := Nat.eq_of_beq_eq_true hf
  subst this
  split at hs2
  · rename_i b x
    split at hs2
    · rename_i cs t hg
      injection hs2 with hs
      injection hs with hb hs
      injection hs with hv hh
      subst hv hh
      simp only [Bool.and_eq_true, decide_eq_true_eq] at hb
      obtain ⟨⟨b1, b2⟩, b3⟩ := hb
      have b1 := eqV_eq b1
      injection b1 with b1
      injection b1 with b1
      have b2 := Nat.eq_of_beq_eq_true b2
      have b3 := eqV_eq b3
      subst b1 b2 b3
      exact ⟨reads1 (rest := [fz ⟨xs⟩]) hF rfl (nnL c m p q) rfl hg, Nat.le_refl _⟩
    · cases hs2
  · cases hs2
noncomputable def spRo (c m p q lo R : Int) (f : FuncId) (args : Array Value) (h : AH) : Option (Bool × Value × AH) :=
  cond (Nat.beq f 17) (match args with
    | ⟨[x, .int .i64 l]⟩ => some (eqV x (lmV keyB c m p q) && decide (l = lo) && !(c == 4), rmV R, h)
    | _ => none) none
theorem spRo_ok {c m p q lo R : Int} (hF : c ≠ 4 → FnOK 0 Tryz.prog 17 ⟨[lmV keyB c m p q, .int .i64 lo]⟩ h0 (fun v _ => v = rmV R)) : SpOK (spRo c m p q lo R) := by
  intro f args h v h' hs
  unfold spRo at hs
  obtain ⟨hf, hs2⟩ := cond_some hs
  clear hs
  have := Nat.eq_of_beq_eq_true hf
  subst this
  split at hs2
  · rename_i x l
    injection hs2 with hs
    injection hs with hb hs
    injection hs with hv hh
    subst hv hh
    simp only [Bool.and_eq_true, decide_eq_true_eq] at hb
    obtain ⟨⟨b1, rfl⟩, b3⟩ := hb
    have := eqV_eq b1
    subst this
    exact ⟨FnOK.pure (hF (by intro e; subst e; cases b3)) rfl rfl h, Nat.le_refl _⟩
  · cases hs2
noncomputable def SLw (zs : List Int) (c m p q d lo R : Int) (xs vs : List Value) : SC := ⟨idn, spOr spReady (spOr (spLr zs c m p q d) (spOr (spRt c m p q xs vs) (spOr (spRo c m p q lo R) (spNext [])))), true, true⟩
def loL : List Value := [.int .i64 1, .int .i64 5, .int .i64 20, .int .i64 60, .int .i64 200]
noncomputable def lwA (zs : List Int) (d : Int) (X : Prop) : Prop :=
  bif eqV (fz (intsV zs)) (fz (intsV zs)) && Nat.beq 25 25 && decide ((0 : Int) = 0) && eqV (.string keyB) (.string keyB) then dr (intsV zs) d (rg (nextR (intsV zs) d 5) 5 5 (dr (intsV zs) (d + 1) (dr (intsV zs) (d + 1 + 1) X))) else False
noncomputable def lwZ (c m p q lo lo2 R : Int) (ys zz vs : List Value) (D : List Value → AH → Prop) (F Q : Prop) : Prop :=
  bif eqV (lmV keyB c m p q) (lmV keyB c m p q) && Nat.beq 27 27 && eqV (fz ⟨ys⟩) (fz ⟨zz⟩) then bif c == 4 then Q else bif eqV (lmV keyB c m p q) (lmV keyB c m p q) && decide (lo2 = lo) && !(c == 4) then
    bif ((Array.mk vs).size : Int) != ((Array.mk ys).size : Int) then F else D (ouV lo2 R ((Array.mk ys).size : Int) 0 ys vs) h0 ∧ Q else False else False
theorem lwB (zs : List Int) (c m p q d e lo R : Int) (ys vs cs : List Value) (j : Nat) (C D : List Value → AH → Prop) (Q : Value → Prop) :
    tfn Tryz.prog (SLw zs c m p q d lo R ys vs) [] (hookOr (hook1 6 (thenLS (hookLS 0 112 [3, 4, 5, 6, 7, 28, 29] [1, 2] [3, 4, 5, 6] (fun vals h K => C vals h ∧ K (.exit 0) (lX lo (.slice (some ⟨2, 0, none⟩) j j)) (lH1 (intsV zs) e (lmC keyB c m p q) cs))) (freezeG 112 true 4 [6]))) (hook1 17 (hookLS 0 112 [5, 6, 8, 10, 72, 73, 74] [] [2] (fun vals h K => D vals h ∧ K (.exit 2) [anyV] h0)))) 3000 [] Tryz.f4 [fz (intsV zs)] h0 (fun v _ => Q v) =
      lwA zs d (NoNames (.cells ⟨lmC keyB c m p q⟩ 27 (0, 0)) ∧ C (lV (gI loL (nextR (intsV zs) d 5)) (.slice none 0 0) (nextR (intsV zs) (d + 1) 10) (IntKind.i64.wrap (0 + nextR (intsV zs) (d + 1 + 1) 31)) 0) (lH0 (intsV zs) (d + 1 + 1 + 1) (lmC keyB c m p q)) ∧
        bif ((Nat.beq j j && Nat.beq j j) && true) && cs.all p1 && j.ble j && (j * 4).ble cs.length && true then lwZ c m p q lo lo R (chunk true 4 j cs) ys vs D (Q (.bool false)) (Q (.bool true)) else False) := by kernel_rfl
theorem lwN (zs : List Int) (c m p q d e lo R : Int) (ys vs : List Value) (C D : List Value → AH → Prop) (Q : Value → Prop) :
    tfn Tryz.prog (SLw zs c m p q d lo R ys vs) [] (hookOr (hook1 6 (thenLS (hookLS 0 112 [3, 4, 5, 6, 7, 28, 29] [1, 2] [3, 4, 5, 6] (fun vals h K => C vals h ∧ K (.exit 0) (lX lo (.slice none 0 0)) (lH0 (intsV zs) e (lmC keyB c m p q)))) (freezeG 112 true 4 [6]))) (hook1 17 (hookLS 0 112 [5, 6, 8, 10, 72, 73, 74] [] [2] (fun vals h K => D vals h ∧ K (.exit 2) [anyV] h0)))) 3000 [] Tryz.f4 [fz (intsV zs)] h0 (fun v _ => Q v) =
      lwA zs d (NoNames (.cells ⟨lmC keyB c m p q⟩ 27 (0, 0)) ∧ C (lV (gI loL (nextR (intsV zs) d 5)) (.slice none 0 0) (nextR (intsV zs) (d + 1) 10) (IntKind.i64.wrap (0 + nextR (intsV zs) (d + 1 + 1) 31)) 0) (lH0 (intsV zs) (d + 1 + 1 + 1) (lmC keyB c m p q)) ∧
        lwZ c m p q lo lo R [] ys vs D (Q (.bool false)) (Q (.bool true))) := by kernel_rfl
theorem SLw_ok {zs : List Int} {c m p q d lo R : Int} {ys vs : List Value} (hr : ∀ Q : Value → Option Obj → Prop, Q (lmV keyB c m p q) (some (strm (intsV zs) d)) → rlT (intsV zs) 0 keyB Q)
    (hF : FnOK 1 Tryz.prog 16 ⟨[.slice (some ⟨0, 0, none⟩) 1 1, fz ⟨ys⟩]⟩ (clH (lmC keyB c m p q)) (fun v g => v = .tuple ⟨[fz ⟨vs⟩, .int .i64 0]⟩ ∧ g.get 0 = some (.cells ⟨lmC keyB c m p q⟩ 27 (0, 0))))
    (hR : c ≠ 4 → FnOK 0 Tryz.prog 17 ⟨[lmV keyB c m p q, .int .i64 lo]⟩ h0 (fun v _ => v = rmV R)) : (SLw zs c m p q d lo R ys vs).cfg.OK Tryz.prog :=
  (spReady_ok.or ((spLr_ok hr).or ((spRt_ok hF).or ((spRo_ok hR).or (spNext_ok []))))).cfg
theorem someLW : Tryz.f4.body.isSome = true := by kernel_rfl
theorem one6 : (loopAt (codeOf Tryz.f4) 6).length = 1 := by kernel_rfl
theorem one17 : (loopAt (codeOf Tryz.f4) 17).length = 1 := by kernel_rfl
theorem lo_in {r : Int} (h0 : 0 ≤ r) (h1 : r < 5) : okLo (gI loL r) := by
  have : r = 0 ∨ r = 1 ∨ r = 2 ∨ r = 3 ∨ r = 4 := by omega
  rcases this with rfl | rfl | rfl | rfl | rfl <;> unfold okLo <;> decide +kernel
theorem lwA_mk {zs : List Int} {d : Int} (h0 : 0 ≤ d) (h1 : d ≤ 1000) {X : Prop} (x : X) : lwA zs d X :=
  need_mk (by rw [eqV_self, eqV_self]; rfl) (dr_mk h0 (by omega) (rg_mk h0 (by omega) rfl (by decide) (dr_mk (by omega) (by omega) (dr_mk (by omega) (by omega) x))))
theorem lwZ_mk {c m p q lo R : Int} {ys vs : List Value} {D : List Value → AH → Prop} {F Q : Prop} (hs : vs.length = ys.length) (hD : c ≠ 4 → D (ouV lo R (ys.length : Int) 0 ys vs) h0) (hQ : Q) : lwZ c m p q lo lo R ys ys vs D F Q := by
  refine need_mk (by rw [eqV_self, eqV_self]; rfl) ?_
  by_cases h4 : c = 4
  · exact pick_t (by rw [h4]; rfl) hQ
  · refine pick_f (beq_eq_false_iff_ne.2 h4) (need_mk (by rw [eqV_self, decide_eq_true rfl, beq_eq_false_iff_ne.2 h4]; rfl) (pick_f ?_ ⟨hD h4, hQ⟩))
    show ((vs.length : Int) != (ys.length : Int)) = false
    rw [hs]; simp
theorem law_ok (zs : List Int) : FnOK 0 Tryz.prog 4 ⟨[fz (intsV zs)]⟩ h0 (fun v _ => v = .bool true) := by
  obtain ⟨c, m, p, b, d, hL, hd0, hd1, hr⟩ := rl_ex zs keyB (d := 0) (Int.le_refl _) (by omega)
  have b1 := nx_in zs (m := 5) (d := d) (by omega) (by omega) (by omega) (by omega)
  have b2 := nx_in zs (m := 10) (d := d + 1) (by omega) (by omega) (by omega) (by omega)
  have b3 := nx_in zs (m := 31) (d := d + 1 + 1) (by omega) (by omega) (by omega) (by omega)
  have hlo := lo_in b1.1 b1.2
  have hw : IntKind.i64.wrap (0 + nextR (intsV zs) (d + 1 + 1) 31) = ((nextR (intsV zs) (d + 1 + 1) 31).toNat : Int) := by rw [wrap_id _ (by omega) (by omega)]; omega
  obtain ⟨L, d', hu, hlen, htop, _, _, hloop⟩ := la_loop zs (lmC keyB c m p b) (nnL c m p b) (n := (nextR (intsV zs) (d + 1 + 1) 31).toNat) (by omega) (gI loL (nextR (intsV zs) d 5)) (nextR (intsV zs) (d + 1 + 1) 31).toNat 0 [] (nextR (intsV zs) (d + 1) 10) (d + 1 + 1 + 1)
    (by omega) rfl trivial (fun x hx => by cases hx) b2.1 (by omega) (by omega) (by omega)
  generalize hlg : gI loL (nextR (intsV zs) d 5) = lo at hlo hloop
  have hl100 : L.length ≤ 100 := by omega
  obtain ⟨R, hRl, hRk, hRF⟩ := rp_ex hL hu hl100 htop
  have hroom : ∃ n : Int, (c ≠ 4 → fair lo n L (R.map (·.1))) ∧ (c ≠ 4 → FnOK 0 Tryz.prog 17 ⟨[lmV keyB c m p b, .int .i64 lo]⟩ h0 (fun v _ => v = rmV n)) := by
    by_cases h4 : c = 4
    · exact ⟨0, fun h => absurd h4 h, fun h => absurd h4 h⟩
    · obtain ⟨n, ⟨n1, n2, n3⟩, hn⟩ := rm_fn hL hlo h4
      have hlo2 := okLo_in hlo
      have hm := hL.1
      have hm5 := okM_in hm
      refine ⟨n, fun _ => ?_, fun _ => hn⟩
      rcases hRk with ⟨rfl, hp, e⟩ | ⟨rfl, hp, e⟩ | ⟨rfl, hp, hb, e⟩ | h
      · rw [n1 rfl, e]
        exact fairW hm hp hlo2.1 L 0 0 0 (Int.le_refl _) (by omega) (by rcases hp with rfl | rfl | rfl | rfl | rfl <;> rfl) hu
      · rw [n2 rfl, e]
        exact fairS hm hp hlo2.1 L [] 0 (by show (0 : Int) ≤ m; omega) hu
      · have hf := full_in hp hb
        rw [n3 rfl, e]
        exact fairB hm hp (by omega) hlo2.1 L 0 (b * p) (by omega) (Int.le_refl _) hu
      · exact absurd h h4
  obtain ⟨n, hfair, hRoom⟩ := hroom
  have hS := SLw_ok (d := d) (ys := L.map aV) (vs := R.map vdV) (lo := lo) (R := n) hr hRF hRoom
  have h17 : LoopsOK 0 Tryz.prog 112 (hook1 17 (hookLS 0 112 [5, 6, 8, 10, 72, 73, 74] [] [2] (fun vals h K => (c ≠ 4 ∧ vals = ouV lo n (L.length : Int) 0 (L.map aV) (R.map vdV) ∧ h = h0) ∧ K (.exit 2) [anyV] h0))) (codeOf Tryz.f4) := by
    refine loops_one one17 (hookE_ok (sameX := []) mixed (by decide) ?_)
    rintro vals h K ⟨⟨h4, rfl, rfl⟩, hK⟩
    exact ⟨_, ou_loop hRl hl100 hu htop hlo (hfair h4) K hK L.length 0 (by omega)⟩
  have hle : ((L.map aV).length : Int) = (L.length : Int) := by rw [List.length_map]
  have hvl : (R.map vdV).length = (L.map aV).length := by rw [List.length_map, List.length_map, hRl]
  match L, hloop, hS, h17, hle, hvl with
  | [], hloop, hS, h17, hle, hvl =>
    have h6 : LoopsOK 0 Tryz.prog 112 (hook1 6 (thenLS (hookLS 0 112 [3, 4, 5, 6, 7, 28, 29] [1, 2] [3, 4, 5, 6] (fun vals h K => (vals = lV lo (.slice none 0 0) (nextR (intsV zs) (d + 1) 10) ((nextR (intsV zs) (d + 1 + 1) 31).toNat : Int) 0 ∧ h = lH0 (intsV zs) (d + 1 + 1 + 1) (lmC keyB c m p b)) ∧
        K (.exit 0) (lX lo (.slice none 0 0)) (lH0 (intsV zs) d' (lmC keyB c m p b)))) (freezeG 112 true 4 [6]))) (codeOf Tryz.f4) := by
      refine loops_one one6 (thenLS_ok (hook_ok (G := []) (L := noHooks) (f := 900) (sameX := [1, 2]) SG_ok mixed (by decide) (loops_none _ _ _ _) ?_) (freezeG_ok _ _ _ _ _ _))
      rintro vals h K ⟨⟨rfl, rfl⟩, hK⟩
      exact ⟨_, hloop K hK⟩
    refine FnOK.ttree hS mixed Tryz.func4 someLW (loops_or h6 h17) (lwN zs c m p b d d' lo n [] (R.map vdV) _ _ (fun v => v = .bool true)) (lwA_mk (by omega) (by omega) ⟨nnL c m p b, ⟨by rw [hw, hlg], rfl⟩, ?_⟩)
    exact lwZ_mk hvl (fun h4 => ⟨h4, rfl, rfl⟩) rfl
  | t :: l, hloop, hS, h17, hle, hvl =>
    have h6 : LoopsOK 0 Tryz.prog 112 (hook1 6 (thenLS (hookLS 0 112 [3, 4, 5, 6, 7, 28, 29] [1, 2] [3, 4, 5, 6] (fun vals h K => (vals = lV lo (.slice none 0 0) (nextR (intsV zs) (d + 1) 10) ((nextR (intsV zs) (d + 1 + 1) 31).toNat : Int) 0 ∧ h = lH0 (intsV zs) (d + 1 + 1 + 1) (lmC keyB c m p b)) ∧
        K (.exit 0) (lX lo (.slice (some ⟨2, 0, none⟩) (t :: l).length (t :: l).length)) (lH1 (intsV zs) d' (lmC keyB c m p b) ((t :: l).flatMap aC)))) (freezeG 112 true 4 [6]))) (codeOf Tryz.f4) := by
      refine loops_one one6 (thenLS_ok (hook_ok (G := []) (L := noHooks) (f := 900) (sameX := [1, 2]) SG_ok mixed (by decide) (loops_none _ _ _ _) ?_) (freezeG_ok _ _ _ _ _ _))
      rintro vals h K ⟨⟨rfl, rfl⟩, hK⟩
      exact ⟨_, hloop K hK⟩
    refine FnOK.ttree hS mixed Tryz.func4 someLW (loops_or h6 h17) (lwB zs c m p b d d' lo n ((t :: l).map aV) (R.map vdV) ((t :: l).flatMap aC) (t :: l).length _ _ (fun v => v = .bool true)) (lwA_mk (by omega) (by omega) ⟨nnL c m p b, ⟨by rw [hw, hlg], rfl⟩, need_mk ?_ ?_⟩)
    · rw [Nat.beq_refl, Nat.ble_eq_true_of_le (Nat.le_refl _), aC_len, Nat.ble_eq_true_of_le (Nat.le_refl _), List.all_eq_true.2 (fun v hv => p1_aC v hv)]
      rfl
    · rw [chunk_aV]
      exact lwZ_mk hvl (fun h4 => ⟨h4, by rw [hle], rfl⟩) rfl
end Go.Proofs.YteeomeididcdlaaGreatDoor
