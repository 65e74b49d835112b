/-
  Queries: ParseQuery.
-/
import Derived.Test.YtnaeehnkabojdaaGreatDoorQuG
namespace Go.Proofs.YtnaeehnkabojdaaGreatDoor
open Go.Ev Go.RowKit RecLaw PathLaw QueryLaw

noncomputable def spIs (f : FuncId) (args : Array Value) (h : AH) : Option (Bool × Value × AH) :=
  cond (Nat.beq f 140) (match args with
    | ⟨[.string s, .string c]⟩ => some (Nat.beq c.size 1, .int .i64 (Lib.indexByte s.data.toList (hdB c)), h)
    | _ => none) none
theorem spIs_ok : SpOK spIs := by
  intro f args h v h' hs
  unfold spIs at hs
  obtain ⟨hf, hs2⟩ := cond_some hs
  clear hs
  have := Nat.eq_of_beq_eq_true hf
  subst this
  split at hs2
  · injection hs2 with hs
    injection hs with hb hs
    injection hs with hv hh
    subst hv hh
    rename_i s c
    rw [one_eq hb]
    exact ⟨flat_call (args := [.string s, .string ⟨#[hdB c]⟩]) rfl rfl fun w => (Tryz.stringslite_Index_one s (hdB c) w).mono fun e w' ⟨h1, h2⟩ => ⟨h1, h2 ▸ Below.refl _ _⟩, Nat.le_refl _⟩
  · cases hs2
noncomputable def SPq : SC := ⟨idn, spOr spIs (spOr spDc (spOr spGs spQf)), true, true⟩
theorem SPq_ok : SPq.cfg.OK Tryz.prog := (spIs_ok.or (spDc_ok.or (spGs_ok.or spQf_ok))).cfg
def oP (cs : List Value) : AH := ⟨1, 1, [(0, .cells ⟨cs⟩ 30 (0, 0))]⟩
noncomputable def eS (ps : List Value) (j : Int) : ByteArray := toStr ((Array.mk ps).toList.getD j.toNat (Value.tuple { toList := [] }))
noncomputable def ptE (ps : List Value) (j : Int) (K : ByteArray → Prop) : Prop :=
  bif decide (0 ≤ j) && decide (j < ((Array.mk ps).size : Int)) && true then (Array.mk ps).toList.getD j.toNat (Value.tuple { toList := [] }) = .string (eS ps j) ∧ K (eS ps j) else False
noncomputable def cutT (s : ByteArray) (K : ByteArray → ByteArray → Prop) : Prop :=
  bif decide (ixS 61 s ≥ 0) then bif decide (0 ≤ ixS 61 s) && decide (ixS 61 s ≤ (s.size : Int)) then
    bif decide (0 ≤ W (ixS 61 s + 1)) && decide (W (ixS 61 s + 1) ≤ (s.size : Int)) && decide ((s.size : Int) ≤ (s.size : Int)) then K (s.extract 0 (ixS 61 s).toNat) (s.extract (W (ixS 61 s + 1)).toNat s.size) else False else False
  else K s ⟨#[]⟩
noncomputable def prT (s : ByteArray) (good : ByteArray → ByteArray → Prop) (bad : Prop) : Prop := cutT s fun a b =>
  bif LE2 a then bif LE2 b then bif !(dq a.data.toList).isSome then bad else bif !(dq b.data.toList).isSome then bad else good (bl ((dq a.data.toList).getD [])) (bl ((dq b.data.toList).getD [])) else False else False
noncomputable def apP (cs : List Value) (k : Nat) (ts : List Value) (X : List Value → Nat → Prop) : Prop :=
  bif (k + 1).ble k then False else bif (k + 1).ble 9223372036854775807 && ((k + 1) * 32).ble 140737488355328 then bif (0 + k * 2).ble (Array.mk cs).size && true && true then X (List.take (k * 2) (List.drop 0 (Array.mk cs).toList) ++ ts) (k + 1) else False else False
theorem pqr0 (vs : List Value) (n i : Int) (B : List Value → AH → Prop) (Q : AExit → List Value → AH → Prop) : once 0 Tryz.prog SPq [] noHooks 900 62 [5, 21, 22, 23] [0] [2, 3, 5] [0] (oneLoop (codeOf Tryz.f8) 6) [.slice none 0 0, fz ⟨vs⟩, .int .i64 n, .int .i64 i] h0 B Q =
    bif decide (i < n) then ptE vs i fun s => bif s.toList == (ByteArray.mk #[]).toList then B [.slice none 0 0, fz ⟨vs⟩, .int .i64 n, .int .i64 (W (i + 1))] h0 else
      prT s (fun a b => NoNames (.cells ⟨[.string a, .string b]⟩ 30 (0, 0)) ∧ B [.slice (some ⟨0, 0, none⟩) 1 1, fz ⟨vs⟩, .int .i64 n, .int .i64 (W (i + 1))] (oP [.string a, .string b])) (Q .ret [.slice none 0 0, .int .i64 9, .slice none 0 0] h0)
    else Q (.exit 0) [anyV, anyV, .slice none 0 0] h0 := by kernel_rfl
theorem pqr1 (vs : List Value) (n i : Int) (cs : List Value) (k : Nat) (B : List Value → AH → Prop) (Q : AExit → List Value → AH → Prop) : once 0 Tryz.prog SPq [] noHooks 900 62 [5, 21, 22, 23] [0] [2, 3, 5] [0] (oneLoop (codeOf Tryz.f8) 6) [.slice (some ⟨0, 0, none⟩) k k, fz ⟨vs⟩, .int .i64 n, .int .i64 i] (oP cs) B Q =
    bif decide (i < n) then ptE vs i fun s => bif s.toList == (ByteArray.mk #[]).toList then NoNames (.cells ⟨cs⟩ 30 (0, 0)) ∧ B [.slice (some ⟨0, 0, none⟩) k k, fz ⟨vs⟩, .int .i64 n, .int .i64 (W (i + 1))] (oP cs) else
      prT s (fun a b => apP cs k [.string a, .string b] fun cs k => NoNames (.cells ⟨cs⟩ 30 (0, 0)) ∧ B [.slice (some ⟨0, 0, none⟩) k k, fz ⟨vs⟩, .int .i64 n, .int .i64 (W (i + 1))] (oP cs)) (NoNames (.cells ⟨cs⟩ 30 (0, 0)) ∧ Q .ret [.slice none 0 0, .int .i64 9, .slice (some ⟨0, 0, none⟩) k k] (oP cs))
    else NoNames (.cells ⟨cs⟩ 30 (0, 0)) ∧ Q (.exit 0) [anyV, anyV, .slice (some ⟨0, 0, none⟩) k k] (oP cs) := by kernel_rfl
noncomputable def pqS (s : ByteArray) (Q : Value → Prop) (X : List Value → Prop) : Prop :=
  bif LE2 s then bif qfC s.data.toList != 0 then Q (.tuple ⟨[.slice none 0 0, .int .i64 (qfC s.data.toList)]⟩) else
    bif true && Nat.ble s.size 1000 then X ((spl 38 s.data.toList).map strV) else False else False
theorem pqf0 (s : ByteArray) (C : List Value → AH → Prop) (Q : Value → Option Obj → Prop) : tfn Tryz.prog SPq [] (hook1 6 (hookLS 0 62 [5, 21, 22, 23] [0] [2, 3, 5] (fun vals h K => C vals h ∧ K (.exit 0) [anyV, anyV, .slice none 0 0] h0))) 900 [] Tryz.f8 [.string s] h0 (fun v h => Q v (h.get 0)) =
    pqS s (fun v => Q v none) fun vs => (C [.slice none 0 0, fz ⟨vs⟩, .int .i64 ((Array.mk vs).size : Int), .int .i64 0] h0 ∧ Q (.tuple ⟨[.slice none 0 0, .int .i64 0]⟩) none) := by kernel_rfl
theorem pqf1 (s : ByteArray) (cs : List Value) (k : Nat) (C : List Value → AH → Prop) (Q : Value → Option Obj → Prop) : tfn Tryz.prog SPq [] (hook1 6 (hookLS 0 62 [5, 21, 22, 23] [0] [2, 3, 5] (fun vals h K => C vals h ∧ K (.exit 0) [anyV, anyV, .slice (some ⟨0, 0, none⟩) k k] (oP cs)))) 900 [] Tryz.f8 [.string s] h0 (fun v h => Q v (h.get 0)) =
    pqS s (fun v => Q v none) fun vs => (C [.slice none 0 0, fz ⟨vs⟩, .int .i64 ((Array.mk vs).size : Int), .int .i64 0] h0 ∧
      bif decide ((k : Int) > 100) then Q (.tuple ⟨[.slice none 0 0, .int .i64 2]⟩) (some (.cells ⟨cs⟩ 30 (0, 0))) else Q (.tuple ⟨[.slice (some ⟨0, 0, none⟩) k k, .int .i64 0]⟩) (some (.cells ⟨cs⟩ 30 (0, 0)))) := by kernel_rfl
/-! the plain side -/
def prC (p : Bs × Bs) : List Value := [strV p.1, strV p.2]
theorem prC_len : ∀ D : List (Bs × Bs), (D.flatMap prC).length = D.length * 2
  | [] => rfl
  | p :: l => by
    rw [List.flatMap_cons, List.length_append, prC_len l, List.length_cons]
    show 2 + _ = _
    omega
theorem p1_prC {L : List (Bs × Bs)} : ∀ v ∈ L.flatMap prC, p1 v = true := by
  intro v hv
  obtain ⟨t, _, h⟩ := List.mem_flatMap.1 hv
  simp only [prC, List.mem_cons, List.not_mem_nil, or_false] at h
  rcases h with rfl | rfl <;> rfl
theorem nnP (L : List (Bs × Bs)) (t : TypeId) (fr : Nat × Nat) : NoNames (.cells ⟨L.flatMap prC⟩ t fr) := fun v hv => p1_prC v (by simpa using hv)
def qV : List (Bs × Bs) → Value
  | [] => .slice none 0 0
  | p :: D => .slice (some ⟨0, 0, none⟩) (p :: D).length (p :: D).length
def qH : List (Bs × Bs) → AH
  | [] => h0
  | p :: D => oP ((p :: D).flatMap prC)
theorem qV_snoc (D : List (Bs × Bs)) (w : Bs × Bs) : qV (D ++ [w]) = .slice (some ⟨0, 0, none⟩) (D ++ [w]).length (D ++ [w]).length ∧ qH (D ++ [w]) = oP ((D ++ [w]).flatMap prC) := by
  cases D with
  | nil => exact ⟨rfl, rfl⟩
  | cons d D => exact ⟨rfl, rfl⟩
theorem spl_mem_len (c : UInt8) : ∀ (l : List UInt8) (p : List UInt8), p ∈ spl c l → p.length ≤ l.length
  | [], p, h => by simp [spl] at h; subst h; exact Nat.le_refl _
  | x :: l, p, h => by
    rw [spl] at h
    split at h
    · rcases List.mem_cons.1 h with rfl | h
      · exact Nat.zero_le _
      · exact Nat.le_succ_of_le (spl_mem_len c l p h)
    · split at h
      · rename_i hq
        rw [List.mem_singleton.1 h]; simp
      · rename_i q r hq
        rcases List.mem_cons.1 h with rfl | h
        · have := spl_mem_len c l q (by rw [hq]; simp)
          simp; exact this
        · exact Nat.le_succ_of_le (spl_mem_len c l p (by rw [hq]; simp [h]))
theorem cutT_ok {w : Bs} (hl : w.length ≤ 1000) {K : ByteArray → ByteArray → Prop} (hK : K (bl (cutB w).1) (bl (cutB w).2)) : cutT (bl w) K := by
  have hix : ixS 61 (bl w) = Lib.indexByte w 61 := by unfold ixS; rw [bl_list]
  unfold cutT
  rw [hix, bl_size]
  by_cases hm : (61 : UInt8) ∈ w
  · obtain ⟨q, r, h1, h2, h3⟩ := split_ex 61 w
    cases r with
    | nil => rw [body_nil] at h1; rw [h1] at hm; exact absurd hm h2
    | cons p r =>
      rw [body_cons] at h1
      have hx : Lib.indexByte w 61 = (q.length : Int) := by rw [h1]; exact idx_at _ h2
      have hc : cutB w = (q, body 61 p r) := by rw [h1]; exact cut_at _ h2
      have hlen : w.length = q.length + (body 61 p r).length + 1 := by rw [h1]; simp; omega
      have w1 : W ((q.length : Int) + 1) = ((q.length + 1 : Nat) : Int) := w_nat 1 (by omega) (by omega)
      have c1 : (bl w).extract 0 (q.length : Int).toNat = bl q := by
        show (bl w).extract 0 q.length = _
        rw [bl_cut _ _ _ (by omega), h1]
        simp
      have c2 : (bl w).extract ((q.length + 1 : Nat) : Int).toNat w.length = bl (body 61 p r) := by
        show (bl w).extract (q.length + 1) w.length = _
        rw [bl_cut _ _ _ (Nat.le_refl _), List.take_length, h1]
        congr 1
        rw [List.drop_append, List.drop_of_length_le (by omega), List.nil_append, Nat.add_sub_cancel_left]
        rfl
      rw [hx, w1, c1, c2]
      rw [hc] at hK
      exact pick_t (decide_eq_true (by omega)) (need_mk (by simp; omega) (need_mk (by simp; omega) hK))
  · have hx := ix_in 61 w
    rw [show w.contains 61 = false by simpa using hm] at hx
    rw [cut_none hm] at hK
    exact pick_f hx hK
theorem prT_ok {w : Bs} (hl : w.length ≤ 1000) {good : ByteArray → ByteArray → Prop} {bad : Prop} (h1 : ∀ p, prB w = some p → good (bl p.1) (bl p.2)) (h2 : prB w = none → bad) : prT (bl w) good bad := by
  have hc := cut_len w
  refine cutT_ok hl ?_
  rw [bl_list, bl_list]
  refine need_mk (LE2_bl (by omega)) (need_mk (LE2_bl (by omega)) ?_)
  unfold prB at h1 h2
  cases e1 : dq (cutB w).1 with
  | none => rw [e1] at h2; exact h2 rfl
  | some a =>
    cases e2 : dq (cutB w).2 with
    | none => rw [e1, e2] at h2; exact h2 rfl
    | some b => rw [e1, e2] at h1; exact h1 (a, b) rfl
theorem eS_at {ps : List Bs} {j : Nat} {w : Bs} {l : List Bs} (h : ps.drop j = w :: l) : eS (ps.map strV) (j : Int) = bl w ∧ (Array.mk (ps.map strV)).toList.getD (j : Int).toNat (Value.tuple { toList := [] }) = .string (bl w) := by
  have hg : ps[j]? = some w := by rw [← List.head?_drop, h]; rfl
  have e : (Array.mk (ps.map strV)).toList.getD (j : Int).toNat (Value.tuple { toList := [] }) = .string (bl w) := by
    show (ps.map strV).getD j (Value.tuple { toList := [] }) = _
    rw [List.getD_eq_getElem?_getD, List.getElem?_map, hg]
    rfl
  exact ⟨by unfold eS; rw [e]; rfl, e⟩
theorem ptE_ok {ps : List Bs} {j : Nat} {w : Bs} {l : List Bs} (h : ps.drop j = w :: l) {K : ByteArray → Prop} (hK : K (bl w)) : ptE (ps.map strV) (j : Int) K := by
  obtain ⟨e1, e2⟩ := eS_at h
  have hj : j < ps.length := by
    have := congrArg List.length h
    simp at this; omega
  unfold ptE
  rw [e1, e2]
  refine need_mk ?_ ⟨rfl, hK⟩
  show (decide ((0 : Int) ≤ (j : Int)) && decide ((j : Int) < (((ps.map strV).length : Nat) : Int)) && true) = true
  rw [List.length_map]
  simp
  omega
theorem apP_ok {D : List (Bs × Bs)} {p : Bs × Bs} {X : List Value → Nat → Prop} (hl : D.length ≤ 100000) (hX : X ((D ++ [p]).flatMap prC) (D ++ [p]).length) : apP (D.flatMap prC) D.length (prC p) X := by
  refine pick_f (ble_no (by omega)) (need_mk ?_ (need_mk ?_ ?_))
  · rw [Bool.and_eq_true, Nat.ble_eq, Nat.ble_eq]; omega
  · have : (0 + D.length * 2).ble (Array.mk (D.flatMap prC)).size = true := by
      rw [Nat.ble_eq]
      show 0 + D.length * 2 ≤ (D.flatMap prC).length
      rw [prC_len]; omega
    rw [this]; rfl
  · have e : List.take (D.length * 2) (List.drop 0 (Array.mk (D.flatMap prC)).toList) ++ prC p = (D ++ [p]).flatMap prC := by
      rw [List.drop_zero]
      show List.take (D.length * 2) (D.flatMap prC) ++ _ = _
      rw [List.take_of_length_le (by rw [prC_len]; exact Nat.le_refl _), List.flatMap_append]
      simp
    rw [e]
    rw [List.length_append] at hX
    exact hX
theorem pq_step (ps : List Bs) (n : Int) (i : Nat) (D : List (Bs × Bs)) (hD : D.length ≤ 1000) (hi : i ≤ 2000) {w : Bs} {l : List Bs} (hw : w.length ≤ 1000) (h : ps.drop i = w :: l) (hn : (i : Int) < n) (B : List Value → AH → Prop) (Q : AExit → List Value → AH → Prop)
    (hB : ∀ D', (w = [] ∧ D' = D) ∨ (w ≠ [] ∧ ∃ p, prB w = some p ∧ D' = D ++ [p]) → B [qV D', fz ⟨ps.map strV⟩, .int .i64 n, .int .i64 ((i + 1 : Nat) : Int)] (qH D'))
    (hR : w ≠ [] → prB w = none → Q .ret [.slice none 0 0, .int .i64 9, qV D] (qH D)) : once 0 Tryz.prog SPq [] noHooks 900 62 [5, 21, 22, 23] [0] [2, 3, 5] [0] (oneLoop (codeOf Tryz.f8) 6) [qV D, fz ⟨ps.map strV⟩, .int .i64 n, .int .i64 (i : Int)] (qH D) B Q := by
  have w1 : W ((i : Int) + 1) = ((i + 1 : Nat) : Int) := w_nat 1 (by omega) (by omega)
  cases D with
  | nil =>
    refine (pqr0 _ _ _ B Q).mpr (pick_t (decide_eq_true hn) (ptE_ok h ?_))
    rw [bl_beq0, w1]
    cases w with
    | nil => exact pick_t rfl (hB [] (.inl ⟨rfl, rfl⟩))
    | cons c w =>
      refine pick_f rfl (prT_ok hw (fun p hp => ⟨nnP [p] _ _, ?_⟩) (fun hp => hR (by simp) hp))
      exact hB [p] (.inr ⟨by simp, p, hp, rfl⟩)
  | cons d D =>
    refine (pqr1 _ _ _ _ _ B Q).mpr (pick_t (decide_eq_true hn) (ptE_ok h ?_))
    rw [bl_beq0, w1]
    cases w with
    | nil => exact pick_t rfl ⟨nnP _ _ _, hB (d :: D) (.inl ⟨rfl, rfl⟩)⟩
    | cons c w =>
      refine pick_f rfl (prT_ok hw (fun p hp => ?_) (fun hp => ⟨nnP _ _ _, hR (by simp) hp⟩))
      exact apP_ok (D := d :: D) (p := p) (by omega) ⟨nnP _ _ _, hB (d :: D ++ [p]) (.inr ⟨by simp, p, hp, rfl⟩)⟩
theorem pq_end (ps : List Bs) (n : Int) (i : Int) (D : List (Bs × Bs)) (hn : ¬ i < n) (B : List Value → AH → Prop) (Q : AExit → List Value → AH → Prop) (hQ : Q (.exit 0) [anyV, anyV, qV D] (qH D)) : once 0 Tryz.prog SPq [] noHooks 900 62 [5, 21, 22, 23] [0] [2, 3, 5] [0] (oneLoop (codeOf Tryz.f8) 6) [qV D, fz ⟨ps.map strV⟩, .int .i64 n, .int .i64 i] (qH D) B Q := by
  cases D with
  | nil => exact (pqr0 _ _ _ B Q).mpr (pick_f (decide_eq_false hn) hQ)
  | cons d D => exact (pqr1 _ _ _ _ _ B Q).mpr (pick_f (decide_eq_false hn) ⟨nnP _ _ _, hQ⟩)
theorem pq_it (n : Nat) {vals : List Value} {h : AH} {K : AExit → List Value → AH → Prop} (hx : once 0 Tryz.prog SPq [] noHooks 900 62 [5, 21, 22, 23] [0] [2, 3, 5] [0] (oneLoop (codeOf Tryz.f8) 6) vals h (fun v g => iter 0 Tryz.prog SPq [] noHooks 900 62 [5, 21, 22, 23] [0] [2, 3, 5] [0] (oneLoop (codeOf Tryz.f8) 6) n v g K) K) : iter 0 Tryz.prog SPq [] noHooks 900 62 [5, 21, 22, 23] [0] [2, 3, 5] [0] (oneLoop (codeOf Tryz.f8) 6) (n + 1) vals h K := hx
theorem pq_loop (K : AExit → List Value → AH → Prop) (ps : List Bs) (hn : ps.length ≤ 1001) (hps : ∀ p ∈ ps, p.length ≤ 1000) : ∀ (l : List Bs) (i : Nat) (D : List (Bs × Bs)), ps.drop i = l → i + l.length = ps.length → D.length ≤ i →
    (∀ L, prs l = some L → K (.exit 0) [anyV, anyV, qV (D ++ L)] (qH (D ++ L))) → (prs l = none → ∀ o, K .ret [.slice none 0 0, .int .i64 9, qV o] (qH o)) →
    iter 0 Tryz.prog SPq [] noHooks 900 62 [5, 21, 22, 23] [0] [2, 3, 5] [0] (oneLoop (codeOf Tryz.f8) 6) (l.length + 1) [qV D, fz ⟨ps.map strV⟩, .int .i64 (ps.length : Int), .int .i64 (i : Int)] (qH D) K
  | [], i, D, _, h2, _, hK, _ => pq_it 0 (pq_end ps _ _ D (by simp at h2; omega) _ _ (by have := hK [] rfl; rw [List.append_nil] at this; exact this))
  | w :: l, i, D, h1, h2, h3, hK, hR => by
    rw [List.length_cons] at h2
    have hw := hps w (by have : w ∈ ps.drop i := by rw [h1]; simp
                         exact List.mem_of_mem_drop this)
    have hd : ps.drop (i + 1) = l := by rw [← List.drop_drop, h1]; rfl
    refine pq_it _ (pq_step ps _ i D (by omega) (by omega) hw h1 (by omega) _ _ ?_ ?_)
    · rintro D' (⟨rfl, rfl⟩ | ⟨hne, p, hp, rfl⟩)
      · refine pq_loop K ps hn hps l (i + 1) D' hd (by omega) (by omega) (fun L hL => hK L ?_) (fun hL => hR ?_)
        · rw [prs, if_pos rfl]; exact hL
        · rw [prs, if_pos rfl]; exact hL
      · refine pq_loop K ps hn hps l (i + 1) (D ++ [p]) hd (by omega) (by simp; omega) (fun L hL => ?_) (fun hL => hR ?_)
        · have := hK (p :: L) (by rw [prs, if_neg hne, hp, hL])
          rw [List.append_assoc]; exact this
        · rw [prs, if_neg hne, hp, hL]
    · intro hne hp
      exact hR (by rw [prs, if_neg hne, hp]) D
theorem pqfR (s : ByteArray) (C : List Value → AH → Prop) (Q : Value → Prop) : tfn Tryz.prog SPq [] (hook1 6 (hookLS 0 62 [5, 21, 22, 23] [0] [2, 3, 5] (fun vals h K => C vals h ∧ ∀ o, K .ret [.slice none 0 0, .int .i64 9, qV o] (qH o)))) 900 [] Tryz.f8 [.string s] h0 (fun v _ => Q v) =
    pqS s Q fun vs => (C [.slice none 0 0, fz ⟨vs⟩, .int .i64 ((Array.mk vs).size : Int), .int .i64 0] h0 ∧ ∀ _ : List (Bs × Bs), Q (.tuple ⟨[.slice none 0 0, .int .i64 9]⟩)) := by kernel_rfl
theorem pq_never (cl : (AExit → List Value → AH → Prop) → Prop) : LSpec 0 Tryz.prog 62 (oneLoop (codeOf Tryz.f8) 6) (hookLS 0 62 [5, 21, 22, 23] [0] [2, 3, 5] (fun vals h K => (fun _ _ => False) vals h ∧ cl K)) := by
  refine hook_ok (G := []) (L := noHooks) (f := 900) (sameX := [0]) SPq_ok mixed (by decide) (loops_none _ _ _ _) ?_
  rintro vals h K ⟨hF, _⟩
  exact hF.elim
theorem onePQ : (loopAt (codeOf Tryz.f8) 6).length = 1 := by kernel_rfl
theorem somePQ : Tryz.f8.body.isSome = true := by kernel_rfl
theorem pq_key {s : Bs} (hs : s.length ≤ 1000) (cl : (AExit → List Value → AH → Prop) → Prop) (hcl : ∀ K, cl K → (∀ L, prs (spl 38 s) = some L → K (.exit 0) [anyV, anyV, qV L] (qH L)) ∧ (prs (spl 38 s) = none → ∀ o, K .ret [.slice none 0 0, .int .i64 9, qV o] (qH o))) :
    LSpec 0 Tryz.prog 62 (oneLoop (codeOf Tryz.f8) 6) (hookLS 0 62 [5, 21, 22, 23] [0] [2, 3, 5] (fun vals h K => (vals = [.slice none 0 0, fz ⟨(spl 38 s).map strV⟩, .int .i64 ((Array.mk ((spl 38 s).map strV)).size : Int), .int .i64 0] ∧ h = h0) ∧ cl K)) := by
  refine hook_ok (G := []) (L := noHooks) (f := 900) (sameX := [0]) SPq_ok mixed (by decide) (loops_none _ _ _ _) ?_
  rintro vals h K ⟨⟨rfl, rfl⟩, hK⟩
  obtain ⟨h1, h2⟩ := hcl K hK
  have hl := spl_len 38 s
  have hsz : ((Array.mk ((spl 38 s).map strV)).size : Int) = ((spl 38 s).length : Int) := by simp
  rw [hsz]
  exact ⟨_, pq_loop K (spl 38 s) (by omega) (fun p hp => by have := spl_mem_len 38 s p hp; omega) (spl 38 s) 0 [] rfl (by simp) (Nat.le_refl _) (fun L hL => h1 L hL) h2⟩
theorem pqS_mk {s : Bs} {Q : Value → Prop} {X : List Value → Prop} (h0 : s.length ≤ 20000) (h1 : okQ s = false → Q (.tuple ⟨[.slice none 0 0, .int .i64 3]⟩)) (h2 : okQ s = true → X ((spl 38 s).map strV)) : pqS (bl s) Q X := by
  unfold pqS
  rw [bl_list, bl_size]
  refine need_mk (LE2_bl h0) ?_
  unfold qfC
  cases h : okQ s with
  | false => exact pick_t rfl (h1 h)
  | true => exact pick_f rfl (need_mk (by rw [Nat.ble_eq_true_of_le (okQ_iff.1 h).1]; rfl) (h2 h))
/-- No pairs, or an error. -/
theorem pq_none {s : Bs} (hs : s.length ≤ 20000) (h : pqL s = []) : FnOK 0 Tryz.prog 8 ⟨[.string (bl s)]⟩ h0 (fun v _ => v = .tuple ⟨[.slice none 0 0, .int .i64 (pqE s)]⟩) := by
  cases hq : okQ s with
  | false =>
    have he : pqE s = 3 := by unfold pqE; rw [hq]; rfl
    rw [he]
    refine FnOK.ttree SPq_ok mixed Tryz.func8 somePQ (loops_one onePQ (pq_never (fun K => K (.exit 0) [anyV, anyV, .slice none 0 0] h0))) (pqf0 (bl s) (fun _ _ => False) (fun v _ => v = .tuple ⟨[.slice none 0 0, .int .i64 3]⟩)) ?_
    exact pqS_mk hs (fun _ => rfl) (fun q => by rw [hq] at q; cases q)
  | true =>
    have hl := (okQ_iff.1 hq).1
    cases hp : prs (spl 38 s) with
    | none =>
      have he : pqE s = 9 := by unfold pqE; rw [if_pos hq, hp]
      rw [he]
      refine FnOK.ttree SPq_ok mixed Tryz.func8 somePQ (loops_one onePQ (pq_key hl (fun K => ∀ o, K .ret [.slice none 0 0, .int .i64 9, qV o] (qH o)) fun K hK => ⟨fun L hL => by (rw [hp] at hL; cases hL), fun _ => hK⟩)) (pqfR (bl s) _ (fun v => v = .tuple ⟨[.slice none 0 0, .int .i64 9]⟩)) ?_
      exact pqS_mk hs (fun q => by rw [hq] at q; cases q) (fun _ => ⟨⟨rfl, rfl⟩, fun _ => rfl⟩)
    | some L =>
      cases L with
      | nil =>
        have he : pqE s = 0 := by unfold pqE; rw [if_pos hq, hp]; rfl
        rw [he]
        refine FnOK.ttree SPq_ok mixed Tryz.func8 somePQ (loops_one onePQ (pq_key hl (fun K => K (.exit 0) [anyV, anyV, .slice none 0 0] h0) fun K hK => ⟨fun L hL => by (rw [hp] at hL; cases hL; exact hK), fun q => by rw [hp] at q; cases q⟩)) (pqf0 (bl s) _ (fun v _ => v = .tuple ⟨[.slice none 0 0, .int .i64 0]⟩)) ?_
        exact pqS_mk hs (fun q => by rw [hq] at q; cases q) (fun _ => ⟨⟨rfl, rfl⟩, rfl⟩)
      | cons p L =>
        have he : pqE s = if (p :: L).length ≤ 100 then 0 else 2 := by unfold pqE; rw [if_pos hq, hp]
        have hbig : ¬ (p :: L).length ≤ 100 := by
          intro q
          rw [if_pos q] at he
          unfold pqL at h
          rw [if_pos he, hp] at h
          cases h
        rw [he, if_neg hbig]
        refine FnOK.ttree SPq_ok mixed Tryz.func8 somePQ (loops_one onePQ (pq_key hl (fun K => K (.exit 0) [anyV, anyV, .slice (some ⟨0, 0, none⟩) (p :: L).length (p :: L).length] (oP ((p :: L).flatMap prC))) fun K hK => ⟨fun M hM => by (rw [hp] at hM; cases hM; exact hK), fun q => by rw [hp] at q; cases q⟩)) (pqf1 (bl s) ((p :: L).flatMap prC) (p :: L).length _ (fun v _ => v = .tuple ⟨[.slice none 0 0, .int .i64 2]⟩)) ?_
        exact pqS_mk hs (fun q => by rw [hq] at q; cases q) (fun _ => ⟨⟨rfl, rfl⟩, pick_t (decide_eq_true (by omega)) rfl⟩)
/-- Pairs, in a new row. -/
theorem pq_some {s : Bs} (hs : s.length ≤ 20000) (h : pqL s ≠ []) : FnOK 0 Tryz.prog 8 ⟨[.string (bl s)]⟩ h0 (fun v g => v = .tuple ⟨[.slice (some ⟨0, 0, none⟩) (pqL s).length (pqL s).length, .int .i64 0]⟩ ∧ g.get 0 = some (.cells ⟨(pqL s).flatMap prC⟩ 30 (0, 0))) := by
  have he : pqE s = 0 := by
    by_cases q : pqE s = 0
    · exact q
    · exact absurd (by unfold pqL; rw [if_neg q]) h
  have hq : okQ s = true := by
    cases q : okQ s with
    | true => rfl
    | false => unfold pqE at he; rw [q] at he; cases he
  have hl := (okQ_iff.1 hq).1
  cases hp : prs (spl 38 s) with
  | none => unfold pqE at he; rw [if_pos hq, hp] at he; cases he
  | some L =>
    have hL : pqL s = L := by unfold pqL; rw [if_pos he, hp]; rfl
    have hn : L.length ≤ 100 := by
      unfold pqE at he
      rw [if_pos hq, hp] at he
      by_cases q : L.length ≤ 100
      · exact q
      · simp only [if_neg q] at he; cases he
    rw [hL] at h ⊢
    cases L with
    | nil => exact absurd rfl h
    | cons p L =>
      refine FnOK.ttree SPq_ok mixed Tryz.func8 somePQ (loops_one onePQ (pq_key hl (fun K => K (.exit 0) [anyV, anyV, .slice (some ⟨0, 0, none⟩) (p :: L).length (p :: L).length] (oP ((p :: L).flatMap prC))) fun K hK => ⟨fun M hM => by (rw [hp] at hM; cases hM; exact hK), fun q => by rw [hp] at q; cases q⟩)) (pqf1 (bl s) ((p :: L).flatMap prC) (p :: L).length _ (fun v o => v = .tuple ⟨[.slice (some ⟨0, 0, none⟩) (p :: L).length (p :: L).length, .int .i64 0]⟩ ∧ o = some (.cells ⟨(p :: L).flatMap prC⟩ 30 (0, 0)))) ?_
      exact pqS_mk hs (fun q => by rw [hq] at q; cases q) (fun _ => ⟨⟨rfl, rfl⟩, pick_f (decide_eq_false (by omega)) ⟨rfl, rfl⟩⟩)
end Go.Proofs.YtnaeehnkabojdaaGreatDoor
