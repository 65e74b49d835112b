/-
  Paths: NormalPath as a specification.
-/
import Derived.Test.YtnaeehnkabojdaaGreatDoorQuC
namespace Go.Proofs.YtnaeehnkabojdaaGreatDoor
open Go.Ev Go.RowKit RecLaw PathLaw

def stO (o : Option (List (List UInt8))) (w : List UInt8) (last : Bool) : Option (List (List UInt8)) :=
  match o with
  | none => if (w = [46] ∨ w = [46, 46]) ∧ last = false then none else some (stepD [] w last)
  | some D => some (stepD D w last)
def dotsO : Option (List (List UInt8)) → List (List UInt8) → Option (List (List UInt8))
  | o, [] => o
  | o, [w] => stO o w true
  | o, w :: v :: r => dotsO (stO o w false) (v :: r)
theorem stO_val (o : Option (List (List UInt8))) (w : List UInt8) (last : Bool) : (stO o w last).getD [] = stepD (o.getD []) w last := by
  cases o with
  | some D => rfl
  | none =>
    show (if (w = [46] ∨ w = [46, 46]) ∧ last = false then none else some (stepD [] w last)).getD [] = stepD [] w last
    split
    · rename_i h
      obtain ⟨h1, h2⟩ := h
      subst h2
      rcases h1 with h1 | h1
      · rw [h1]; rfl
      · rw [h1]; rfl
    · rfl
theorem dotsO_val : ∀ (ws : List (List UInt8)) (o : Option (List (List UInt8))), (dotsO o ws).getD [] = dots (o.getD []) ws
  | [], o => rfl
  | [w], o => stO_val o w true
  | w :: v :: r, o => by
    show (dotsO (stO o w false) (v :: r)).getD [] = dots (stepD (o.getD []) w false) (v :: r)
    rw [dotsO_val (v :: r), stO_val]
theorem dotsO_some : ∀ (ws : List (List UInt8)) (o : Option (List (List UInt8))), ws ≠ [] → (dotsO o ws).isSome = true
  | [], _, h => absurd rfl h
  | [w], o, _ => by
    cases o with
    | some D => rfl
    | none => show (stO none w true).isSome = true; unfold stO; simp
  | w :: v :: r, o, _ => dotsO_some (v :: r) _ (by simp)
def oV : Option (List (List UInt8)) → Value
  | none => .slice none 0 0
  | some D => .slice (some ⟨0, 0, none⟩) D.length D.length
def oHp : Option (List (List UInt8)) → AH
  | none => h0
  | some D => oB (D.map strV)
theorem np_it (n : Nat) {vals : List Value} {h : AH} {K : AExit → List Value → AH → Prop} (hx : once 0 Tryz.prog SQ0 [] NPG 600 59 [7, 25, 26, 27, 6] [0] [6] [0] (oneLoop (codeOf Tryz.f32) 10) vals h (fun v g => iter 0 Tryz.prog SQ0 [] NPG 600 59 [7, 25, 26, 27, 6] [0] [6] [0] (oneLoop (codeOf Tryz.f32) 10) n v g K) K) : iter 0 Tryz.prog SQ0 [] NPG 600 59 [7, 25, 26, 27, 6] [0] [6] [0] (oneLoop (codeOf Tryz.f32) 10) (n + 1) vals h K := hx
theorem el_at {L : List (List UInt8)} {i : Nat} (hi : i < L.length) : elS (L.map strV) (i : Int) = bl L[i] ∧ (Array.mk (L.map strV)).toList.getD (i : Int).toNat (Value.tuple { toList := [] }) = .string (bl L[i]) := by
  have e : (Array.mk (L.map strV)).toList.getD (i : Int).toNat (Value.tuple { toList := [] }) = .string (bl L[i]) := by
    show (L.map strV).getD i (Value.tuple { toList := [] }) = _
    rw [List.getD, List.getElem?_map, List.getElem?_eq_getElem hi]
    rfl
  exact ⟨by unfold elS; rw [e]; rfl, e⟩
theorem bl_beq (w : List UInt8) (x : ByteArray) : ((bl w).toList == x.toList) = (w == x.data.toList) := by
  rw [Lib.toList_data, Lib.toList_data, bl_list]
theorem apS_ok {D : List (List UInt8)} {w : List UInt8} {X : List Value → Nat → Prop} (hl : D.length ≤ 100000) (hX : X ((D ++ [w]).map strV) (D ++ [w]).length) : apS (D.map strV) D.length (.string (bl w)) X := by
  refine pick_f (ble_ss _) (need_mk ?_ (need_mk ?_ ?_))
  · rw [Bool.and_eq_true, Nat.ble_eq, Nat.ble_eq]; omega
  · have : (0 + D.length * 1).ble (Array.mk (D.map strV)).size = true := by
      rw [Nat.ble_eq]
      show 0 + D.length * 1 ≤ (D.map strV).length
      rw [List.length_map]; omega
    rw [this]; rfl
  · have e : List.take (D.length * 1) (List.drop 0 (Array.mk (D.map strV)).toList) ++ [.string (bl w)] = (D ++ [w]).map strV := by
      rw [List.drop_zero, Nat.mul_one, List.map_append]
      show List.take D.length (D.map strV) ++ _ = _
      rw [List.take_of_length_le (by rw [List.length_map]; exact Nat.le_refl _)]
      rfl
    rw [e]
    rw [List.length_append] at hX
    exact hX
theorem dm_eq {k : Nat} (h : k ≤ 100000) : dm k = ((k - 1 : Nat) : Int) := by
  unfold dm
  rw [wrap_id _ (by omega) (by omega)]
  split <;> omega
theorem step_len (out : List (List UInt8)) (w : List UInt8) (last : Bool) : (stepD out w last).length ≤ out.length + 1 := by
  unfold stepD
  split
  · split <;> simp
  · split
    · split <;> simp <;> omega
    · simp
theorem np_loop {L : List (List UInt8)} (hL : L.length ≤ 2000) (K : AExit → List Value → AH → Prop) : ∀ (r i : Nat) (o : Option (List (List UInt8))), i + r = L.length → (o.getD []).length ≤ i →
    K (.exit 0) [oV (dotsO o (L.drop i))] (oHp (dotsO o (L.drop i))) → iter 0 Tryz.prog SQ0 [] NPG 600 59 [7, 25, 26, 27, 6] [0] [6] [0] (oneLoop (codeOf Tryz.f32) 10) (r + 1) [fz ⟨L.map strV⟩, fz ⟨L.map strV⟩, .int .i64 (L.length : Int), .int .i64 (i : Int), oV o] (oHp o) K := by
  intro r
  induction r with
  | zero =>
    intro i o h1 h2 hK
    rw [List.drop_of_length_le (by omega)] at hK
    cases o with
    | none => exact np_it 0 ((npr0 _ _ _ _ K).mpr (pick_f (decide_eq_false (by omega)) hK))
    | some D => exact np_it 0 ((npr1 _ _ _ _ _ _ K).mpr (pick_f (decide_eq_false (by omega)) ⟨nnS _ _ _, hK⟩))
  | succ r ih =>
    intro i o h1 h2 hK
    have hi : i < L.length := by omega
    obtain ⟨e1, e2⟩ := el_at hi
    have hd : L.drop i = L[i] :: L.drop (i + 1) := List.drop_eq_getElem_cons hi
    have hsz : ((Array.mk (L.map strV)).size : Int) = (L.length : Int) := by
      show (((L.map strV).length : Nat) : Int) = _
      rw [List.length_map]
    have hin : (decide (0 ≤ (i : Int)) && decide ((i : Int) < ((Array.mk (L.map strV)).size : Int)) && true) = true := by rw [hsz]; simp; omega
    have hw : IntKind.i64.wrap ((i : Int) + 1) = ((i + 1 : Nat) : Int) := wrap1 (by omega)
    have hlast : ((i : Int) == IntKind.i64.wrap (((Array.mk (L.map strV)).size : Int) - 1)) = decide (L.drop (i + 1) = []) := by
      rw [hsz, wrap_id _ (by omega) (by omega)]
      by_cases q : i + 1 = L.length
      · rw [decide_eq_true (by rw [List.drop_of_length_le (by omega)])]
        exact beq_iff_eq.2 (by omega)
      · rw [decide_eq_false (by
          intro e
          have := congrArg List.length e
          rw [List.length_drop] at this
          simp at this
          omega)]
        exact beq_eq_false_iff_ne.2 (by omega)
    have hds : dotsO o (L.drop i) = dotsO (stO o L[i] (decide (L.drop (i + 1) = []))) (L.drop (i + 1)) := by
      rw [hd]
      cases hq : L.drop (i + 1) with
      | nil => rfl
      | cons v t => rfl
    have hln : ((stO o L[i] (decide (L.drop (i + 1) = []))).getD []).length ≤ i + 1 := by
      rw [stO_val]
      have := step_len (o.getD []) L[i] (decide (L.drop (i + 1) = []))
      omega
    rw [hds] at hK
    have go := ih (i + 1) (stO o L[i] (decide (L.drop (i + 1) = []))) (by omega) hln hK
    clear hK hds hln ih
    cases o with
    | none =>
      refine np_it (r + 1) ((npr0 _ _ _ _ K).mpr (pick_t (decide_eq_true (by omega)) (need_mk hin ⟨by rw [e2, e1], ?_⟩)))
      unfold lastT npX
      rw [e1, bl_beq, bl_beq, hw, hlast]
      generalize hb : decide (L.drop (i + 1) = []) = b at go ⊢
      generalize L[i] = w at go ⊢
      by_cases h46 : w = [46]
      · refine pick_t (by subst h46; rfl) ?_
        subst h46
        cases b with
        | true => exact pick_t rfl ⟨nnS [[]] _ _, go⟩
        | false => exact pick_f rfl go
      · refine pick_f (beq_eq_false_iff_ne.2 h46) ?_
        by_cases h47 : w = [46, 46]
        · refine pick_t (by subst h47; rfl) ?_
          subst h47
          cases b with
          | true => exact pick_t rfl ⟨nnS [[]] _ _, go⟩
          | false => exact pick_f rfl go
        · refine pick_f (beq_eq_false_iff_ne.2 h47) ?_
          have es : stO none w b = some [w] := by
            unfold stO
            rw [if_neg (fun q => q.1.elim h46 h47)]
            unfold stepD
            rw [if_neg h46, if_neg h47]; rfl
          rw [es] at go
          exact ⟨nnS [w] _ _, go⟩
    | some D =>
      have h2 : D.length ≤ i := h2
      refine np_it (r + 1) ((npr1 _ _ _ _ _ _ K).mpr (pick_t (decide_eq_true (by omega)) (need_mk hin ⟨by rw [e2, e1], ?_⟩)))
      unfold lastT npY lastT
      rw [e1, bl_beq, bl_beq, hlast]
      have hX : ∀ D2 : List (List UInt8), stO (some D) L[i] (decide (L.drop (i + 1) = [])) = some D2 → npX (L.map strV) (L.length : Int) (i : Int) (fun v g => iter 0 Tryz.prog SQ0 [] NPG 600 59 [7, 25, 26, 27, 6] [0] [6] [0] (oneLoop (codeOf Tryz.f32) 10) (r + 1) v g K) (D2.map strV) D2.length := fun D2 h => by
        unfold npX
        rw [hw]
        rw [h] at go
        exact ⟨nnS _ _ _, go⟩
      clear go
      generalize hb : decide (L.drop (i + 1) = []) = b at hX ⊢
      generalize L[i] = w at hX ⊢
      by_cases h46 : w = [46]
      · refine pick_t (by subst h46; rfl) ?_
        subst h46
        cases b with
        | true => exact pick_t rfl (apS_ok (w := []) (by omega) (hX _ rfl))
        | false => exact pick_f rfl (hX _ rfl)
      · refine pick_f (beq_eq_false_iff_ne.2 h46) ?_
        by_cases h47 : w = [46, 46]
        · refine pick_t (by subst h47; rfl) ?_
          subst h47
          have hdm := dm_eq (k := D.length) (by omega)
          rw [hdm]
          refine need_mk (by simp <;> omega) ?_
          have htn : (((D.length - 1 : Nat) : Int)).toNat - 0 = D.dropLast.length := by rw [List.length_dropLast]; omega
          have htk : List.take (((((D.length - 1 : Nat) : Int)).toNat - 0) * 1) (D.map strV) = D.dropLast.map strV := by
            rw [htn, Nat.mul_one, ← List.map_take, List.length_dropLast, List.dropLast_eq_take]
          rw [htk, htn]
          have hY : (bif ((D.length - 0) * 1).ble (D.map strV).length && D.dropLast.length.ble (D.length - 0) then
              bif b then apS (D.dropLast.map strV) D.dropLast.length (.string ⟨#[]⟩) (npX (L.map strV) (L.length : Int) (i : Int) (fun v g => iter 0 Tryz.prog SQ0 [] NPG 600 59 [7, 25, 26, 27, 6] [0] [6] [0] (oneLoop (codeOf Tryz.f32) 10) (r + 1) v g K)) else npX (L.map strV) (L.length : Int) (i : Int) (fun v g => iter 0 Tryz.prog SQ0 [] NPG 600 59 [7, 25, 26, 27, 6] [0] [6] [0] (oneLoop (codeOf Tryz.f32) 10) (r + 1) v g K) (D.dropLast.map strV) D.dropLast.length else False : Prop) := by
            refine need_mk ?_ ?_
            · rw [Bool.and_eq_true, Nat.ble_eq, Nat.ble_eq, List.length_map, List.length_dropLast]; omega
            · cases b with
              | true => exact pick_t rfl (apS_ok (w := []) (by rw [List.length_dropLast]; omega) (hX _ rfl))
              | false => exact pick_f rfl (hX _ rfl)
          cases Nat.beq 0 D.length
          · exact hY
          · exact hY
        · refine pick_f (beq_eq_false_iff_ne.2 h47) ?_
          have es : stO (some D) w b = some (D ++ [w]) := by
            show some (stepD D w b) = _
            unfold stepD
            rw [if_neg h46, if_neg h47]
          exact apS_ok (by omega) (hX _ es)

/-! NormalPath -/
noncomputable def SN2 : SC := ⟨idn, spOr spPf (spOr spNu (spOr spGs spJr)), true, true⟩
theorem SN2_ok : SN2.cfg.OK Tryz.prog := (spPf_ok.or (spNu_ok.or (spGs_ok.or spJr_ok))).cfg
theorem oneNP : (loopAt (codeOf Tryz.f32) 10).length = 1 := by kernel_rfl
theorem someNP : Tryz.f32.body.isSome = true := by kernel_rfl
def tlS (s : ByteArray) : ByteArray := ((bl ((nu s.data.toList).getD [])).extract 1 ((bl ((nu s.data.toList).getD [])).size : Int).toNat)
theorem npf (s : ByteArray) (cs : List Value) (k : Nat) (C : List Value → AH → Prop) (Q : Value → Prop) : tfn Tryz.prog SN2 [] (hook1 10 (hookLS 0 59 [7, 25, 26, 27, 6] [0] [6] (fun vals h K => C vals h ∧ K (.exit 0) [.slice (some ⟨0, 0, none⟩) k k] (oB cs)))) 600 [] Tryz.f32 [.string s] h0 (fun v _ => Q v) =
    bif Nat.ble s.data.toList.length 20000 then bif pfC s.data.toList != 0 then Q (.tuple ⟨[.string ⟨#[]⟩, .int .i64 (pfC s.data.toList)]⟩) else bif Nat.ble s.data.toList.length 20000 then bif !(nu s.data.toList).isSome then Q (.tuple ⟨[.string ⟨#[]⟩, .int .i64 9]⟩) else
      bif decide (1 ≤ ((bl ((nu s.data.toList).getD [])).size : Int)) && decide (((bl ((nu s.data.toList).getD [])).size : Int) ≤ ((bl ((nu s.data.toList).getD [])).size : Int)) then bif Nat.ble (tlS s).size 1000 then
        C [fz ⟨(spl 47 (tlS s).data.toList).map strV⟩, fz ⟨(spl 47 (tlS s).data.toList).map strV⟩, .int .i64 ((Array.mk ((spl 47 (tlS s).data.toList).map strV)).size : Int), .int .i64 0, .slice none 0 0] h0 ∧
        bif cs.all isStr && Nat.beq cs.length k && Nat.blt 0 k && Nat.ble k k && Nat.ble k 1000 && lenJ cs ⟨#[47]⟩ then bif Nat.ble (1 + (bl (Lib.join ((strsOf cs).map (·.data.toList)) [47])).size) 1000000 then
          Q (.tuple ⟨[.string (⟨#[47]⟩ ++ bl (Lib.join ((strsOf cs).map (·.data.toList)) [47])), .int .i64 0]⟩) else False else False
      else False else False else False else False := by kernel_rfl
def npE (l : List UInt8) : Int := if okP l then (if (np l).isSome then 0 else 9) else 3
def npS (l : List UInt8) : List UInt8 := if okP l then (np l).getD [] else []
theorem strs_of (D : List (List UInt8)) : strsOf (D.map strV) = D.map bl := by
  unfold strsOf
  rw [List.map_map]
  rfl
theorem jn_of (D : List (List UInt8)) : (strsOf (D.map strV)).map (·.data.toList) = D := by
  rw [strs_of, List.map_map]
  have : (fun x : ByteArray => x.data.toList) ∘ bl = id := by funext l; exact bl_list l
  rw [this, List.map_id]
theorem allS_map (D : List (List UInt8)) : (D.map strV).all isStr = true := by
  rw [List.all_eq_true]
  intro v hv
  obtain ⟨d, _, rfl⟩ := List.mem_map.1 hv
  rfl
theorem mu_len (L : List (List UInt8)) : L.length ≤ mu L := by
  induction L with
  | nil => simp
  | cons a l ih => rw [mu_cons]; simp; omega
theorem np_head {l s : List UInt8} (h : okP l = true) (hs : nu l = some s) : ∃ t, s = 47 :: t ∧ s.length ≤ 1000 := by
  obtain ⟨h1, h2, h3⟩ := okP_iff.1 h
  have i2 := (nu_ink l hs h3).2
  cases l with
  | nil => simp at h2
  | cons c l =>
    simp at h2
    subst h2
    rw [nu_cons (by decide)] at hs
    obtain ⟨t, _, rfl⟩ := Option.map_eq_some_iff.1 hs
    exact ⟨t, rfl, by omega⟩
theorem np_fn {l : List UInt8} (hl : l.length ≤ 20000) : FnOK 0 Tryz.prog 32 ⟨[.string (bl l)]⟩ h0 (fun v _ => v = .tuple ⟨[.string (bl (npS l)), .int .i64 (npE l)]⟩) := by
  have hf : ∀ (C : List Value → AH → Prop) (cs : List Value) (k : Nat), (∀ vals h K, C vals h → K (.exit 0) [.slice (some ⟨0, 0, none⟩) k k] (oB cs) → ∃ R, iter 0 Tryz.prog SQ0 [] NPG 600 59 [7, 25, 26, 27, 6] [0] [6] [0] (oneLoop (codeOf Tryz.f32) 10) R vals h K) →
      LSpec 0 Tryz.prog 59 (oneLoop (codeOf Tryz.f32) 10) (hookLS 0 59 [7, 25, 26, 27, 6] [0] [6] (fun vals h K => C vals h ∧ K (.exit 0) [.slice (some ⟨0, 0, none⟩) k k] (oB cs))) := by
    intro C cs k hC
    refine hook_ok (G := []) (L := NPG) (f := 600) (sameX := [0]) SQ0_ok mixed (by decide) ?_ ?_
    · exact loops_or (ghosts_one (by kernel_rfl) (mark1G_ok _ _ _ _)) (ghosts_one (by kernel_rfl) (cutG_ok _ _ _ _))
    · rintro vals h K ⟨h1, h2⟩
      exact hC vals h K h1 h2
  have hble : Nat.ble (bl l).data.toList.length 20000 = true := by rw [bl_list]; exact Nat.ble_eq_true_of_le hl
  cases hp : okP l with
  | false =>
    refine FnOK.ttree SN2_ok mixed Tryz.func32 someNP (loops_one oneNP (hf (fun _ _ => False) [] 0 (fun _ _ _ h => h.elim))) (npf (bl l) [] 0 _ (fun v => v = .tuple ⟨[.string (bl (npS l)), .int .i64 (npE l)]⟩)) ?_
    refine need_mk hble (pick_t ?_ ?_)
    · rw [bl_list]; unfold pfC; rw [hp]; rfl
    · rw [bl_list]; unfold pfC npS npE; rw [hp]; rfl
  | true =>
    have hpf : (pfC (bl l).data.toList != 0) = false := by rw [bl_list]; unfold pfC; rw [hp]; rfl
    cases hn : nu l with
    | none =>
      refine FnOK.ttree SN2_ok mixed Tryz.func32 someNP (loops_one oneNP (hf (fun _ _ => False) [] 0 (fun _ _ _ h => h.elim))) (npf (bl l) [] 0 _ (fun v => v = .tuple ⟨[.string (bl (npS l)), .int .i64 (npE l)]⟩)) ?_
      refine need_mk hble (pick_f hpf (need_mk hble (pick_t ?_ ?_)))
      · rw [bl_list, hn]; rfl
      · unfold npS npE np; rw [hp, hn]; rfl
    | some s =>
      obtain ⟨t, rfl, h1000⟩ := np_head hp hn
      have htl : tlS (bl l) = bl t := by
        unfold tlS
        rw [bl_list, hn]
        show (bl (47 :: t)).extract 1 ((bl (47 :: t)).size : Int).toNat = _
        rw [Int.toNat_natCast, bl_size, bl_cut _ _ _ (Nat.le_refl _), List.take_length]
        rfl
      simp only [List.length_cons] at h1000
      have hsl := spl_len 47 t
      have hne : spl 47 t ≠ [] := by
        obtain ⟨q, r, e1, e2, e3⟩ := split_ex 47 t
        rw [spl_body 47 t q r e2 e3 e1]; simp
      have hO : dotsO none (spl 47 t) = some (dots [] (spl 47 t)) := by
        have h1 := dotsO_some (spl 47 t) none hne
        have h2 := dotsO_val (spl 47 t) none
        cases hq : dotsO none (spl 47 t) with
        | none => rw [hq] at h1; cases h1
        | some D => rw [hq] at h2; exact congrArg some h2
      have hmu : mu (dots [] (spl 47 t)) ≤ mu (spl 47 t) ∧ dots [] (spl 47 t) ≠ [] := by
        obtain ⟨_, d2, d3⟩ := dots_ok (P := fun _ => True) trivial (spl 47 t) [] (fun _ h => by cases h) (fun _ _ => trivial) hne
        exact ⟨by simpa [mu] using d2, d3⟩
      have hmt : mu (spl 47 t) = t.length + 1 := by
        obtain ⟨q, r, e1, e2, e3⟩ := split_ex 47 t
        rw [spl_body 47 t q r e2 e3 e1, ← body_mu 47, ← e1]
      refine FnOK.ttree SN2_ok mixed Tryz.func32 someNP (loops_one oneNP (hf (fun vals h => vals = [fz ⟨(spl 47 t).map strV⟩, fz ⟨(spl 47 t).map strV⟩, .int .i64 ((spl 47 t).length : Int), .int .i64 0, .slice none 0 0] ∧ h = h0) ((dots [] (spl 47 t)).map strV) (dots [] (spl 47 t)).length (by
        rintro vals h K ⟨rfl, rfl⟩ hK
        refine ⟨_, np_loop (L := spl 47 t) (by omega) K (spl 47 t).length 0 none (by omega) (by simp) ?_⟩
        rw [List.drop_zero, hO]
        exact hK))) (npf (bl l) ((dots [] (spl 47 t)).map strV) (dots [] (spl 47 t)).length _ (fun v => v = .tuple ⟨[.string (bl (npS l)), .int .i64 (npE l)]⟩)) ?_
      refine need_mk hble (pick_f hpf (need_mk hble (pick_f (by rw [bl_list, hn]; rfl) ?_)))
      rw [htl, bl_list, bl_list, hn, jn_of, allS_map]
      have hml := mu_len (dots [] (spl 47 t))
      have hjl : (Lib.join (dots [] (spl 47 t)) [47]).length + 1 = mu (dots [] (spl 47 t)) ∧ Lib.join (dots [] (spl 47 t)) [47] = joi (dots [] (spl 47 t)) := by
        cases hq : dots [] (spl 47 t) with
        | nil => exact absurd hq hmu.2
        | cons a b => rw [join_body, body_mu]; exact ⟨rfl, rfl⟩
      refine need_mk ?_ (need_mk ?_ ⟨⟨?_, rfl⟩, need_mk ?_ (need_mk ?_ ?_)⟩)
      · simp [bl_size]; omega
      · rw [bl_size]; exact Nat.ble_eq_true_of_le (by omega)
      · have : ((Array.mk ((spl 47 t).map strV)).size : Int) = ((spl 47 t).length : Int) := by
          show ((((spl 47 t).map strV).length : Nat) : Int) = _
          rw [List.length_map]
        rw [this]
      · have hk : 0 < (dots [] (spl 47 t)).length := List.length_pos_iff.2 hmu.2
        unfold lenJ
        rw [jn_of, List.length_map, Nat.beq_refl, Nat.ble_eq_true_of_le (Nat.le_refl _), Nat.ble_eq_true_of_le (by omega : (dots [] (spl 47 t)).length ≤ 1000)]
        have : Nat.ble (Lib.join (dots [] (spl 47 t)) [47]).length 100000 = true := Nat.ble_eq_true_of_le (by omega)
        have h2 : Nat.blt 0 (dots [] (spl 47 t)).length = true := Nat.ble_eq_true_of_le hk
        rw [h2]
        exact this
      · rw [bl_size]; exact Nat.ble_eq_true_of_le (by omega)
      · unfold npS npE np
        rw [hp, hn, hjl.2]
        rfl
noncomputable def spNp (f : FuncId) (args : Array Value) (h : AH) : Option (Bool × Value × AH) :=
  cond (Nat.beq f 32) (match args with
    | ⟨[.string s]⟩ => some (Nat.ble s.data.toList.length 20000, .tuple ⟨[.string (bl (npS s.data.toList)), .int .i64 (npE s.data.toList)]⟩, h)
    | _ => none) none
theorem spNp_ok : SpOK spNp := by
  intro f args h v h' hs
  unfold spNp at hs
  obtain ⟨hf, hs2⟩ := cond_some hs
  clear hs
  have := Nat.eq_of_beq_eq_true hf
  subst this
  split at hs2
  · injection hs2 with hs
    injection hs with hb hs
    injection hs with hv hh
    subst hv hh
    rename_i s
    have := np_fn (Nat.le_of_ble_eq_true hb)
    rw [bl_self] at this
    exact ⟨FnOK.pure this rfl rfl h, Nat.le_refl _⟩
  · cases hs2
end Go.Proofs.YtnaeehnkabojdaaGreatDoor
