/-
  Headers: the parts between commas, as a specification.
-/
import Derived.Test.YtfjfdemnnhfmoaaGreatDoorHoA
namespace Go.Proofs.YtfjfdemnnhfmoaaGreatDoor
open Go.Ev Go.RowKit RecLaw PathLaw HopLaw

noncomputable def SPt : SC := ⟨idn, spOr spTm spGs, true, true⟩
theorem SPt_ok : SPt.cfg.OK Tryz.prog := (spTm_ok.or spGs_ok).cfg
def oB (cs : List Value) : AH := ⟨1, 1, [(0, .cells ⟨cs⟩ 9 (0, 0))]⟩
noncomputable def eS (ps : List Value) (j : Int) : ByteArray := toStr ((Array.mk ps).toList.getD j.toNat (Value.tuple { toList := [] }))
noncomputable def ptE (ps : List Value) (j : Int) (K : ByteArray → Prop) : Prop :=
  bif decide (0 ≤ j) && decide (j < ((Array.mk ps).size : Int)) && true then (Array.mk ps).toList.getD j.toNat (Value.tuple { toList := [] }) = .string (eS ps j) ∧ K (eS ps j) else False
noncomputable def trS (s : ByteArray) : ByteArray := bl (Lib.trimB s.data.toList 32)
noncomputable def apS (cs : List Value) (k : Nat) (v : Value) (X : List Value → Nat → Prop) : Prop :=
  bif (k + 1).ble k then False else bif (k + 1).ble 9223372036854775807 && ((k + 1) * 16).ble 140737488355328 then bif (0 + k * 1).ble (Array.mk cs).size && true && true then X (List.take (k * 1) (List.drop 0 (Array.mk cs).toList) ++ [v]) (k + 1) else False else False
theorem ptN (vs ps : List Value) (n i m j : Int) (B : List Value → AH → Prop) (Q : AExit → List Value → AH → Prop) :
    once 0 Tryz.prog SPt [] noHooks 600 32 [3, 8, 9, 10, 15, 16, 17] [0] [3, 8, 9, 10] [0] (oneLoop (codeOf Tryz.f60) 6) [.slice none 0 0, fz ⟨vs⟩, .int .i64 n, .int .i64 i, fz ⟨ps⟩, .int .i64 m, .int .i64 j] h0 B Q =
      bif decide (j < m) then ptE ps j fun s => bif Nat.ble s.size 100000 && true then bif !((trS s).toList == (ByteArray.mk #[]).toList) then
        NoNames (.cells ⟨[.string (trS s)]⟩ 9 (0, 0)) ∧ B [.slice (some ⟨0, 0, none⟩) 1 1, fz ⟨vs⟩, .int .i64 n, .int .i64 i, fz ⟨ps⟩, .int .i64 m, .int .i64 (IntKind.i64.wrap (j + 1))] (oB [.string (trS s)]) else B [.slice none 0 0, fz ⟨vs⟩, .int .i64 n, .int .i64 i, fz ⟨ps⟩, .int .i64 m, .int .i64 (IntKind.i64.wrap (j + 1))] h0 else False
      else Q (.exit 2) [.slice none 0 0, fz ⟨vs⟩, .int .i64 n, .int .i64 i] h0 := by kernel_rfl
theorem ptB (cs vs ps : List Value) (k : Nat) (n i m j : Int) (B : List Value → AH → Prop) (Q : AExit → List Value → AH → Prop) :
    once 0 Tryz.prog SPt [] noHooks 600 32 [3, 8, 9, 10, 15, 16, 17] [0] [3, 8, 9, 10] [0] (oneLoop (codeOf Tryz.f60) 6) [.slice (some ⟨0, 0, none⟩) k k, fz ⟨vs⟩, .int .i64 n, .int .i64 i, fz ⟨ps⟩, .int .i64 m, .int .i64 j] (oB cs) B Q =
      bif decide (j < m) then ptE ps j fun s => bif Nat.ble s.size 100000 && true then bif !((trS s).toList == (ByteArray.mk #[]).toList) then
        apS cs k (.string (trS s)) fun cs k => NoNames (.cells ⟨cs⟩ 9 (0, 0)) ∧ B [.slice (some ⟨0, 0, none⟩) k k, fz ⟨vs⟩, .int .i64 n, .int .i64 i, fz ⟨ps⟩, .int .i64 m, .int .i64 (IntKind.i64.wrap (j + 1))] (oB cs) else NoNames (.cells ⟨cs⟩ 9 (0, 0)) ∧ B [.slice (some ⟨0, 0, none⟩) k k, fz ⟨vs⟩, .int .i64 n, .int .i64 i, fz ⟨ps⟩, .int .i64 m, .int .i64 (IntKind.i64.wrap (j + 1))] (oB cs) else False
      else NoNames (.cells ⟨cs⟩ 9 (0, 0)) ∧ Q (.exit 2) [.slice (some ⟨0, 0, none⟩) k k, fz ⟨vs⟩, .int .i64 n, .int .i64 i] (oB cs) := by kernel_rfl
noncomputable def ptO (vs : List Value) (n i : Int) (C : List Value → Prop) (Q : Prop) : Prop :=
  bif decide (i < n) then ptE vs i fun s => bif Nat.ble s.size 1000 then C [fz ⟨(spl 44 s.data.toList).map strV⟩, .int .i64 ((Array.mk ((spl 44 s.data.toList).map strV)).size : Int), .int .i64 0] else False else Q
theorem ptNN (vs : List Value) (n i : Int) (C : List Value → AH → Prop) (B : List Value → AH → Prop) (Q : AExit → List Value → AH → Prop) :
    once 0 Tryz.prog SPt [] (hook1 6 (hookLS 0 32 [3, 8, 9, 10, 15, 16, 17] [0] [3, 8, 9, 10] (fun vals h K => C vals h ∧ K (.exit 2) [.slice none 0 0, fz ⟨vs⟩, .int .i64 n, .int .i64 i] h0))) 600 32 [3, 8, 9, 10] [0] [3] [0] (oneLoop (codeOf Tryz.f60) 3) [.slice none 0 0, fz ⟨vs⟩, .int .i64 n, .int .i64 i] h0 B Q =
      ptO vs n i (fun l => C ([.slice none 0 0, fz ⟨vs⟩, .int .i64 n, .int .i64 i] ++ l) h0 ∧ B [.slice none 0 0, fz ⟨vs⟩, .int .i64 n, .int .i64 (IntKind.i64.wrap (i + 1))] h0) (Q (.exit 0) [.slice none 0 0] h0) := by kernel_rfl
theorem ptNB (cs vs : List Value) (k : Nat) (n i : Int) (C : List Value → AH → Prop) (B : List Value → AH → Prop) (Q : AExit → List Value → AH → Prop) :
    once 0 Tryz.prog SPt [] (hook1 6 (hookLS 0 32 [3, 8, 9, 10, 15, 16, 17] [0] [3, 8, 9, 10] (fun vals h K => C vals h ∧ K (.exit 2) [.slice (some ⟨0, 0, none⟩) k k, fz ⟨vs⟩, .int .i64 n, .int .i64 i] (oB cs)))) 600 32 [3, 8, 9, 10] [0] [3] [0] (oneLoop (codeOf Tryz.f60) 3) [.slice none 0 0, fz ⟨vs⟩, .int .i64 n, .int .i64 i] h0 B Q =
      ptO vs n i (fun l => C ([.slice none 0 0, fz ⟨vs⟩, .int .i64 n, .int .i64 i] ++ l) h0 ∧ NoNames (.cells ⟨cs⟩ 9 (0, 0)) ∧ B [.slice (some ⟨0, 0, none⟩) k k, fz ⟨vs⟩, .int .i64 n, .int .i64 (IntKind.i64.wrap (i + 1))] (oB cs)) (Q (.exit 0) [.slice none 0 0] h0) := by kernel_rfl
theorem ptBB (ds cs vs : List Value) (q k : Nat) (n i : Int) (C : List Value → AH → Prop) (B : List Value → AH → Prop) (Q : AExit → List Value → AH → Prop) :
    once 0 Tryz.prog SPt [] (hook1 6 (hookLS 0 32 [3, 8, 9, 10, 15, 16, 17] [0] [3, 8, 9, 10] (fun vals h K => C vals h ∧ K (.exit 2) [.slice (some ⟨0, 0, none⟩) k k, fz ⟨vs⟩, .int .i64 n, .int .i64 i] (oB cs)))) 600 32 [3, 8, 9, 10] [0] [3] [0] (oneLoop (codeOf Tryz.f60) 3) [.slice (some ⟨0, 0, none⟩) q q, fz ⟨vs⟩, .int .i64 n, .int .i64 i] (oB ds) B Q =
      ptO vs n i (fun l => NoNames (.cells ⟨ds⟩ 9 (0, 0)) ∧ C ([.slice (some ⟨0, 0, none⟩) q q, fz ⟨vs⟩, .int .i64 n, .int .i64 i] ++ l) (oB ds) ∧ NoNames (.cells ⟨cs⟩ 9 (0, 0)) ∧ B [.slice (some ⟨0, 0, none⟩) k k, fz ⟨vs⟩, .int .i64 n, .int .i64 (IntKind.i64.wrap (i + 1))] (oB cs)) (NoNames (.cells ⟨ds⟩ 9 (0, 0)) ∧ Q (.exit 0) [.slice (some ⟨0, 0, none⟩) q q] (oB ds)) := by kernel_rfl
theorem ptfN (vs : List Value) (C : List Value → AH → Prop) (Q : Value → AH → Prop) : tfn Tryz.prog SPt [] (hook1 3 (hookLS 0 32 [3, 8, 9, 10] [0] [3] (fun vals h K => C vals h ∧ K (.exit 0) [.slice none 0 0] h0))) 600 [] Tryz.f60 [fz ⟨vs⟩] h0 Q =
    (C [.slice none 0 0, fz ⟨vs⟩, .int .i64 ((Array.mk vs).size : Int), .int .i64 0] h0 ∧ Q (.slice none 0 0) h0) := by kernel_rfl
theorem ptfB (cs vs : List Value) (k : Nat) (C : List Value → AH → Prop) (Q : Value → AH → Prop) : tfn Tryz.prog SPt [] (hook1 3 (hookLS 0 32 [3, 8, 9, 10] [0] [3] (fun vals h K => C vals h ∧ K (.exit 0) [.slice (some ⟨0, 0, none⟩) k k] (oB cs)))) 600 [] Tryz.f60 [fz ⟨vs⟩] h0 Q =
    (C [.slice none 0 0, fz ⟨vs⟩, .int .i64 ((Array.mk vs).size : Int), .int .i64 0] h0 ∧ Q (.slice (some ⟨0, 0, none⟩) k k) (oB cs)) := by kernel_rfl

/-! the plain side -/
theorem bl_beq (w : List UInt8) (x : ByteArray) : ((bl w).toList == x.toList) = (w == x.data.toList) := by
  rw [Lib.toList_data, Lib.toList_data, bl_list]
theorem spl_mem_len (c : UInt8) : ∀ (l : List UInt8) (p : List UInt8), p ∈ spl c l → p.length ≤ l.length
  | [], p, h => by simp [spl] at h; subst h; exact Nat.le_refl _
  | x :: l, p, h => by
    rw [spl] at h
    split at h
    · rcases List.mem_cons.1 h with rfl | h
      · exact Nat.zero_le _
      · exact Nat.le_succ_of_le (spl_mem_len c l p h)
    · split at h
      · rename_i hq
        rw [List.mem_singleton.1 h]; simp
      · rename_i q r hq
        rcases List.mem_cons.1 h with rfl | h
        · have := spl_mem_len c l q (by rw [hq]; simp)
          simp; exact this
        · exact Nat.le_succ_of_le (spl_mem_len c l p (by rw [hq]; simp [h]))
theorem bl_beq0 (l : List UInt8) : ((bl l).toList == (ByteArray.mk #[]).toList) = l.isEmpty := by
  rw [bl_beq]
  cases l <;> rfl
theorem eS_at {ps : List (List UInt8)} {j : Nat} (hj : j < ps.length) : eS (ps.map strV) (j : Int) = bl ps[j] ∧ (Array.mk (ps.map strV)).toList.getD (j : Int).toNat (Value.tuple { toList := [] }) = .string (bl ps[j]) := by
  have e : (Array.mk (ps.map strV)).toList.getD (j : Int).toNat (Value.tuple { toList := [] }) = .string (bl ps[j]) := by
    show (ps.map strV).getD j (Value.tuple { toList := [] }) = _
    rw [List.getD, List.getElem?_map, List.getElem?_eq_getElem hj]
    rfl
  exact ⟨by unfold eS; rw [e]; rfl, e⟩
theorem ptE_ok {ps : List (List UInt8)} {j : Nat} (hj : j < ps.length) {K : ByteArray → Prop} (hK : K (bl ps[j])) : ptE (ps.map strV) (j : Int) K := by
  obtain ⟨e1, e2⟩ := eS_at hj
  unfold ptE
  rw [e1, e2]
  refine need_mk ?_ ⟨rfl, hK⟩
  show (decide ((0 : Int) ≤ (j : Int)) && decide ((j : Int) < (((ps.map strV).length : Nat) : Int)) && true) = true
  rw [List.length_map]
  simp
  omega
theorem apS_ok {D : List (List UInt8)} {w : List UInt8} {X : List Value → Nat → Prop} (hl : D.length ≤ 100000) (hX : X ((D ++ [w]).map strV) (D ++ [w]).length) : apS (D.map strV) D.length (.string (bl w)) X := by
  refine pick_f (ble_ss _) (need_mk ?_ (need_mk ?_ ?_))
  · rw [Bool.and_eq_true, Nat.ble_eq, Nat.ble_eq]; omega
  · have : (0 + D.length * 1).ble (Array.mk (D.map strV)).size = true := by
      rw [Nat.ble_eq]
      show 0 + D.length * 1 ≤ (D.map strV).length
      rw [List.length_map]; omega
    rw [this]; rfl
  · have e : List.take (D.length * 1) (List.drop 0 (Array.mk (D.map strV)).toList) ++ [.string (bl w)] = (D ++ [w]).map strV := by
      rw [List.drop_zero, Nat.mul_one, List.map_append]
      show List.take D.length (D.map strV) ++ _ = _
      rw [List.take_of_length_le (by rw [List.length_map]; exact Nat.le_refl _)]
      rfl
    rw [e]
    rw [List.length_append] at hX
    exact hX
def dV : List (List UInt8) → Value
  | [] => .slice none 0 0
  | d :: D => .slice (some ⟨0, 0, none⟩) (d :: D).length (d :: D).length
def dH : List (List UInt8) → AH
  | [] => h0
  | d :: D => oB ((d :: D).map strV)
theorem dV_snoc (D : List (List UInt8)) (w : List UInt8) : dV (D ++ [w]) = .slice (some ⟨0, 0, none⟩) (D ++ [w]).length (D ++ [w]).length ∧ dH (D ++ [w]) = oB ((D ++ [w]).map strV) := by
  cases D with
  | nil => exact ⟨rfl, rfl⟩
  | cons d D => exact ⟨rfl, rfl⟩
def keptB (ps : List (List UInt8)) : List (List UInt8) := (ps.map fun p => Lib.trimB p 32).filter fun p => !p.isEmpty
theorem pt_it (n : Nat) {vals : List Value} {h : AH} {K : AExit → List Value → AH → Prop} (hx : once 0 Tryz.prog SPt [] noHooks 600 32 [3, 8, 9, 10, 15, 16, 17] [0] [3, 8, 9, 10] [0] (oneLoop (codeOf Tryz.f60) 6) vals h (fun v g => iter 0 Tryz.prog SPt [] noHooks 600 32 [3, 8, 9, 10, 15, 16, 17] [0] [3, 8, 9, 10] [0] (oneLoop (codeOf Tryz.f60) 6) n v g K) K) : iter 0 Tryz.prog SPt [] noHooks 600 32 [3, 8, 9, 10, 15, 16, 17] [0] [3, 8, 9, 10] [0] (oneLoop (codeOf Tryz.f60) 6) (n + 1) vals h K := hx
theorem pt_in {vs : List Value} {n i : Int} {ps : List (List UInt8)} (hp : ∀ p ∈ ps, p.length ≤ 100000) (hps : ps.length ≤ 2000) (K : AExit → List Value → AH → Prop) :
    ∀ (r j : Nat) (D : List (List UInt8)), j + r = ps.length → D.length + r ≤ 100000 → K (.exit 2) [dV (D ++ keptB (ps.drop j)), fz ⟨vs⟩, .int .i64 n, .int .i64 i] (dH (D ++ keptB (ps.drop j))) →
      iter 0 Tryz.prog SPt [] noHooks 600 32 [3, 8, 9, 10, 15, 16, 17] [0] [3, 8, 9, 10] [0] (oneLoop (codeOf Tryz.f60) 6) (r + 1) [dV D, fz ⟨vs⟩, .int .i64 n, .int .i64 i, fz ⟨ps.map strV⟩, .int .i64 (ps.length : Int), .int .i64 (j : Int)] (dH D) K
  | 0, j, D, h1, h2, hK => by
    rw [List.drop_of_length_le (by omega), show keptB [] = [] from rfl, List.append_nil] at hK
    refine pt_it 0 ?_
    cases D with
    | nil => exact (ptN _ _ _ _ _ _ _ K).mpr (pick_f (decide_eq_false (by omega)) hK)
    | cons d D => exact (ptB _ _ _ _ _ _ _ _ _ K).mpr (pick_f (decide_eq_false (by omega)) ⟨nnS (d :: D) _ _, hK⟩)
  | r + 1, j, D, h1, h2, hK => by
    have hj : j < ps.length := by omega
    rw [List.drop_eq_getElem_cons hj] at hK
    have hb := hp _ (List.getElem_mem hj)
    have hsz : (Nat.ble (bl ps[j]).size 100000 && true) = true := by rw [bl_size, Nat.ble_eq_true_of_le hb]; rfl
    have htr : trS (bl ps[j]) = bl (Lib.trimB ps[j] 32) := by unfold trS; rw [bl_list]
    have ek : keptB (ps[j] :: ps.drop (j + 1)) = (bif (Lib.trimB ps[j] 32).isEmpty then [] else [Lib.trimB ps[j] 32]) ++ keptB (ps.drop (j + 1)) := by
      unfold keptB
      rw [List.map_cons, List.filter_cons]
      cases (Lib.trimB ps[j] 32).isEmpty <;> rfl
    rw [ek] at hK
    refine pt_it (r + 1) ?_
    cases he : (Lib.trimB ps[j] 32).isEmpty with
    | true =>
      rw [he, cond_true, List.nil_append] at hK
      have ih := pt_in hp hps K r (j + 1) D (by omega) (by omega) hK
      cases D with
      | nil =>
        refine (ptN _ _ _ _ _ _ _ K).mpr (pick_t (decide_eq_true (by omega)) (ptE_ok hj (need_mk hsz ?_)))
        rw [htr, bl_beq0, he, wrap1 (by omega)]
        exact ih
      | cons d D =>
        refine (ptB _ _ _ _ _ _ _ _ _ K).mpr (pick_t (decide_eq_true (by omega)) (ptE_ok hj (need_mk hsz ?_)))
        rw [htr, bl_beq0, he, wrap1 (by omega)]
        exact ⟨nnS (d :: D) _ _, ih⟩
    | false =>
      rw [he, cond_false, ← List.append_assoc] at hK
      have ih := pt_in hp hps K r (j + 1) (D ++ [Lib.trimB ps[j] 32]) (by omega) (by rw [List.length_append]; simp; omega) hK
      obtain ⟨e1, e2⟩ := dV_snoc D (Lib.trimB ps[j] 32)
      rw [e1, e2] at ih
      cases D with
      | nil =>
        refine (ptN _ _ _ _ _ _ _ K).mpr (pick_t (decide_eq_true (by omega)) (ptE_ok hj (need_mk hsz ?_)))
        rw [htr, bl_beq0, he, wrap1 (by omega)]
        exact ⟨nnS [Lib.trimB ps[j] 32] _ _, ih⟩
      | cons d D =>
        refine (ptB _ _ _ _ _ _ _ _ _ K).mpr (pick_t (decide_eq_true (by omega)) (ptE_ok hj (need_mk hsz ?_)))
        rw [htr, bl_beq0, he, wrap1 (by omega)]
        refine pick_t rfl (apS_ok (D := d :: D) (w := Lib.trimB ps[j] 32) (by omega) ?_)
        exact ⟨nnS ((d :: D) ++ [Lib.trimB ps[j] 32]) _ _, ih⟩
theorem partsB_cons (v : List UInt8) (r : List (List UInt8)) : partsB (v :: r) = keptB (spl 44 v) ++ partsB r := by
  unfold partsB keptB
  rw [List.flatMap_cons]
theorem oneI : (loopAt (codeOf Tryz.f60) 6).length = 1 := by kernel_rfl
theorem oneO : (loopAt (codeOf Tryz.f60) 3).length = 1 := by kernel_rfl
theorem oneIO : (loopAt (oneLoop (codeOf Tryz.f60) 3) 6).length = 1 := by kernel_rfl
theorem eqIO : oneLoop (oneLoop (codeOf Tryz.f60) 3) 6 = oneLoop (codeOf Tryz.f60) 6 := by kernel_rfl
theorem somePT : Tryz.f60.body.isSome = true := by kernel_rfl
theorem pt_hook {vs : List Value} {n i : Int} {ps : List (List UInt8)} (hp : ∀ p ∈ ps, p.length ≤ 100000) (hps : ps.length ≤ 2000) {D : List (List UInt8)} (hD : D.length ≤ 90000) :
    LoopsOK 0 Tryz.prog 32 (hook1 6 (hookLS 0 32 [3, 8, 9, 10, 15, 16, 17] [0] [3, 8, 9, 10] (fun vals h K => (vals = [dV D, fz ⟨vs⟩, .int .i64 n, .int .i64 i, fz ⟨ps.map strV⟩, .int .i64 (ps.length : Int), .int .i64 0] ∧ h = dH D) ∧ K (.exit 2) [dV (D ++ keptB ps), fz ⟨vs⟩, .int .i64 n, .int .i64 i] (dH (D ++ keptB ps))))) (oneLoop (codeOf Tryz.f60) 3) := by
  refine loops_one oneIO ?_
  rw [eqIO]
  refine hook_ok (G := []) (L := noHooks) (f := 600) (sameX := [0]) SPt_ok mixed (by decide) (loops_none _ _ _ _) ?_
  rintro vals h K ⟨⟨rfl, rfl⟩, hK⟩
  exact ⟨_, pt_in hp hps K ps.length 0 D (by omega) (by omega) (by rw [List.drop_zero]; exact hK)⟩
theorem pt_itE (n : Nat) {vals : List Value} {h : AH} {K : AExit → List Value → AH → Prop} (hx : ∃ S G L f, S.cfg.OK Tryz.prog ∧ LoopsOK 0 Tryz.prog 32 L (oneLoop (codeOf Tryz.f60) 3) ∧ once 0 Tryz.prog S G L f 32 [3, 8, 9, 10] [0] [3] [0] (oneLoop (codeOf Tryz.f60) 3) vals h (fun v g => iterE 0 Tryz.prog 32 [3, 8, 9, 10] [0] [3] [0] (oneLoop (codeOf Tryz.f60) 3) n v g K) K) : iterE 0 Tryz.prog 32 [3, 8, 9, 10] [0] [3] [0] (oneLoop (codeOf Tryz.f60) 3) (n + 1) vals h K := hx
theorem partsB_len : ∀ (vs : List (List UInt8)), (partsB vs).length ≤ (vs.map fun v => v.length + 1).sum
  | [] => Nat.le_refl _
  | v :: r => by
    have h1 := partsB_len r
    have h2 : (keptB (spl 44 v)).length ≤ v.length + 1 := by
      unfold keptB
      have := List.length_filter_le (fun p : List UInt8 => !p.isEmpty) ((spl 44 v).map fun p => Lib.trimB p 32)
      rw [List.length_map] at this
      have := spl_len 44 v
      omega
    rw [partsB_cons, List.length_append, List.map_cons, List.sum_cons]
    omega
theorem pt_out {vs : List (List UInt8)} (hv : ∀ v ∈ vs, v.length ≤ 1000) (hl : vs.length ≤ 50) (K : AExit → List Value → AH → Prop) :
    ∀ (r i : Nat) (D : List (List UInt8)), i + r = vs.length → D.length + 1001 * r ≤ 90000 → K (.exit 0) [dV (D ++ partsB (vs.drop i))] (dH (D ++ partsB (vs.drop i))) →
      iterE 0 Tryz.prog 32 [3, 8, 9, 10] [0] [3] [0] (oneLoop (codeOf Tryz.f60) 3) (r + 1) [dV D, fz ⟨vs.map strV⟩, .int .i64 (vs.length : Int), .int .i64 (i : Int)] (dH D) K
  | 0, i, D, h1, h2, hK => by
    rw [List.drop_of_length_le (by omega), show partsB [] = [] from rfl, List.append_nil] at hK
    refine pt_itE 0 ⟨SPt, [], _, 600, SPt_ok, pt_hook (vs := vs.map strV) (n := (vs.length : Int)) (i := (i : Int)) (ps := []) (by simp) (by simp) (D := D) (by omega), ?_⟩
    have e : D ++ keptB [] = D := by rw [show keptB [] = [] from rfl, List.append_nil]
    rw [e]
    cases D with
    | nil => exact (ptNN _ _ _ _ _ K).mpr (pick_f (decide_eq_false (by omega)) hK)
    | cons d D => exact (ptBB _ _ _ _ _ _ _ _ _ K).mpr (pick_f (decide_eq_false (by omega)) ⟨nnS (d :: D) _ _, hK⟩)
  | r + 1, i, D, h1, h2, hK => by
    have hi : i < vs.length := by omega
    have hb := hv _ (List.getElem_mem hi)
    rw [List.drop_eq_getElem_cons hi, partsB_cons, ← List.append_assoc] at hK
    have hsp := spl_len 44 vs[i]
    have hkl : (keptB (spl 44 vs[i])).length ≤ 1001 := by
      unfold keptB
      have := List.length_filter_le (fun p : List UInt8 => !p.isEmpty) ((spl 44 vs[i]).map fun p => Lib.trimB p 32)
      rw [List.length_map] at this
      omega
    have ih := pt_out hv hl K r (i + 1) (D ++ keptB (spl 44 vs[i])) (by omega) (by rw [List.length_append]; omega) hK
    have hpl : ∀ p ∈ spl 44 vs[i], p.length ≤ 100000 := fun p hp => by
      have := spl_mem_len 44 vs[i] p hp
      omega
    refine pt_itE (r + 1) ⟨SPt, [], _, 600, SPt_ok, pt_hook (vs := vs.map strV) (n := (vs.length : Int)) (i := (i : Int)) hpl (by omega) (D := D) (by omega), ?_⟩
    have hsz : Nat.ble (bl vs[i]).size 1000 = true := by rw [bl_size]; exact Nat.ble_eq_true_of_le hb
    have hlen : (((Array.mk ((spl 44 vs[i]).map strV)).size : Nat) : Int) = ((spl 44 vs[i]).length : Int) := by
      show (((spl 44 vs[i]).map strV).length : Int) = _
      rw [List.length_map]
    cases D with
    | nil =>
      rw [List.nil_append] at ih ⊢
      generalize hg : keptB (spl 44 vs[i]) = E at ih ⊢
      cases E with
      | nil =>
        refine (ptNN _ _ _ _ _ K).mpr (pick_t (decide_eq_true (by omega)) (ptE_ok hi (need_mk hsz ?_)))
        rw [bl_list, hlen, wrap1 (by omega)]
        exact ⟨⟨rfl, rfl⟩, ih⟩
      | cons e E =>
        refine (ptNB _ _ _ _ _ _ _ K).mpr (pick_t (decide_eq_true (by omega)) (ptE_ok hi (need_mk hsz ?_)))
        rw [bl_list, hlen, wrap1 (by omega)]
        exact ⟨⟨rfl, rfl⟩, nnS (e :: E) _ _, ih⟩
    | cons d D =>
      generalize hg : keptB (spl 44 vs[i]) = E at ih ⊢
      refine (ptBB _ _ _ _ _ _ _ _ _ K).mpr (pick_t (decide_eq_true (by omega)) (ptE_ok hi (need_mk hsz ?_)))
      rw [bl_list, hlen, wrap1 (by omega)]
      exact ⟨nnS (d :: D) _ _, ⟨rfl, rfl⟩, nnS (d :: D ++ E) _ _, ih⟩
theorem pt_fn {vs : List (List UInt8)} (hv : ∀ v ∈ vs, v.length ≤ 1000) (hl : vs.length ≤ 50) : FnOK 0 Tryz.prog 60 ⟨[fz ⟨vs.map strV⟩]⟩ h0 (fun v _ => v = fz ⟨(partsB vs).map strV⟩) := by
  have hsp : LSpec 0 Tryz.prog 32 (oneLoop (codeOf Tryz.f60) 3) (hookLS 0 32 [3, 8, 9, 10] [0] [3] (fun vals h K => (vals = [.slice none 0 0, fz ⟨vs.map strV⟩, .int .i64 (vs.length : Int), .int .i64 0] ∧ h = h0) ∧ K (.exit 0) [dV (partsB vs)] (dH (partsB vs)))) := by
    refine hookE_ok (sameX := [0]) mixed (by decide) ?_
    rintro vals h K ⟨⟨rfl, rfl⟩, hK⟩
    exact ⟨_, pt_out hv hl K vs.length 0 [] (by omega) (by simp; omega) (by rw [List.drop_zero, List.nil_append]; exact hK)⟩
  have hlen : (((Array.mk (vs.map strV)).size : Nat) : Int) = (vs.length : Int) := by
    show ((vs.map strV).length : Int) = _
    rw [List.length_map]
  generalize hg : partsB vs = E at hsp ⊢
  cases E with
  | nil =>
    refine FnOK.weak1 (FnOK.ttree SPt_ok mixed Tryz.func60 somePT (loops_one oneO hsp) (ptfN (vs.map strV) _ _) ⟨⟨by rw [hlen], rfl⟩, ?_⟩)
    exact ⟨_, _, nil1, rfl⟩
  | cons e E =>
    refine FnOK.weak1 (FnOK.ttree SPt_ok mixed Tryz.func60 somePT (loops_one oneO hsp) (ptfB ((e :: E).map strV) (vs.map strV) (e :: E).length _ _) ⟨⟨by rw [hlen], rfl⟩, ?_⟩)
    exact ⟨_, _, freezeS (e :: E) rfl rfl, rfl⟩
def blS (vs : List Value) : List (List UInt8) := vs.map fun v => (toStr v).data.toList
theorem blS_map (L : List (List UInt8)) : blS (L.map strV) = L := by
  unfold blS
  rw [List.map_map]
  have : (fun v => (toStr v).data.toList) ∘ strV = id := by funext l; exact bl_list l
  rw [this, List.map_id]
theorem blS_eq : ∀ {vs : List Value}, vs.all isStr = true → vs = (blS vs).map strV
  | [], _ => rfl
  | v :: l, h => by
    rw [List.all_cons, Bool.and_eq_true] at h
    have ih := blS_eq h.2
    have hx : v = .string (toStr v) := by cases v <;> first | rfl | cases h.1
    show v :: l = strV (toStr v).data.toList :: (blS l).map strV
    rw [← ih]
    unfold strV
    rw [bl_self, ← hx]
def okPt (vs : List Value) : Bool := vs.all isStr && Nat.ble vs.length 50 && (blS vs).all fun v => Nat.ble v.length 1000
noncomputable def spPt (f : FuncId) (args : Array Value) (h : AH) : Option (Bool × Value × AH) :=
  cond (Nat.beq f 60) (match args with
    | ⟨[.func (.yield 0) ⟨vs⟩ ⟨[]⟩]⟩ => some (okPt vs, fz ⟨(partsB (blS vs)).map strV⟩, h)
    | _ => none) none
theorem spPt_ok : SpOK spPt := by
  intro f args h v h' hs
  unfold spPt at hs
  obtain ⟨hf, hs2⟩ := cond_some hs
  clear hs
  have := Nat.eq_of_beq_eq_true hf
  subst this
  split at hs2
  · injection hs2 with hs
    injection hs with hb hs
    injection hs with hv hh
    subst hv hh
    rename_i vs
    unfold okPt at hb
    simp only [Bool.and_eq_true, Nat.ble_eq, List.all_eq_true] at hb
    obtain ⟨⟨b1, b2⟩, b3⟩ := hb
    have e := blS_eq (List.all_eq_true.2 b1)
    have := pt_fn (vs := blS vs) b3 (by unfold blS; rw [List.length_map]; omega)
    rw [← e] at this
    exact ⟨FnOK.pure this rfl rfl h, Nat.le_refl _⟩
  · cases hs2
end Go.Proofs.YtfjfdemnnhfmoaaGreatDoor
