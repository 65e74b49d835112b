/-
  Queries: QueryText.
-/
import Derived.Test.YtnaeehnkabojdaaGreatDoorQuI
namespace Go.Proofs.YtnaeehnkabojdaaGreatDoor
open Go.Ev Go.RowKit RecLaw PathLaw QueryLaw

noncomputable def SQt : SC := ⟨idn, spOr spQw spJr, true, true⟩
theorem SQt_ok : SQt.cfg.OK Tryz.prog := (spQw_ok.or spJr_ok).cfg
noncomputable def wrX (x : Value) (K : ByteArray → Prop) : Prop :=
  bif LE2 (s1 x) then bif Nat.ble ((bl (qw (s1 x).data.toList)).size + (ByteArray.mk #[61]).size) 1000000 then bif LE2 (s2 x) then
    bif Nat.ble ((bl (qw (s1 x).data.toList) ++ ⟨#[61]⟩).size + (bl (qw (s2 x).data.toList)).size) 1000000 then K (bl (qw (s1 x).data.toList) ++ ⟨#[61]⟩ ++ bl (qw (s2 x).data.toList)) else False else False else False else False
noncomputable def qtR (vs : List Value) (i : Int) (good : ByteArray → Prop) (bad : Prop) : Prop :=
  bif decide (0 ≤ i) && decide (i < ((Array.mk vs).size : Int)) && Nat.beq (e2 (elV vs i)).cells.size 2 then elV vs i = e2 (elV vs i) ∧
    bif (s1 (elV vs i) == ⟨#[]⟩ && (s2 (elV vs i) == ⟨#[]⟩ && true)) then bad else wrX (elV vs i) good
  else False
theorem qtr0 (vs : List Value) (n i : Int) (B : List Value → AH → Prop) (Q : AExit → List Value → AH → Prop) : once 0 Tryz.prog SQt [] noHooks 900 38 [4, 11, 12, 13] [0] [2, 3, 4] [0] (oneLoop (codeOf Tryz.f7) 5) [.slice none 0 0, fz ⟨vs⟩, .int .i64 n, .int .i64 i] h0 B Q =
    bif decide (i < n) then qtR vs i (fun s => NoNames (.cells ⟨[.string s]⟩ 9 (0, 0)) ∧ B [.slice (some ⟨0, 0, none⟩) 1 1, fz ⟨vs⟩, .int .i64 n, .int .i64 (W (i + 1))] (oB [.string s])) (Q .ret [.string ⟨#[]⟩, .int .i64 3, .slice none 0 0] h0)
    else Q (.exit 0) [anyV, anyV, .slice none 0 0] h0 := by kernel_rfl
theorem qtr1 (vs : List Value) (n i : Int) (cs : List Value) (k : Nat) (B : List Value → AH → Prop) (Q : AExit → List Value → AH → Prop) : once 0 Tryz.prog SQt [] noHooks 900 38 [4, 11, 12, 13] [0] [2, 3, 4] [0] (oneLoop (codeOf Tryz.f7) 5) [.slice (some ⟨0, 0, none⟩) k k, fz ⟨vs⟩, .int .i64 n, .int .i64 i] (oB cs) B Q =
    bif decide (i < n) then qtR vs i (fun s => apS cs k (.string s) fun cs k => NoNames (.cells ⟨cs⟩ 9 (0, 0)) ∧ B [.slice (some ⟨0, 0, none⟩) k k, fz ⟨vs⟩, .int .i64 n, .int .i64 (W (i + 1))] (oB cs)) (NoNames (.cells ⟨cs⟩ 9 (0, 0)) ∧ Q .ret [.string ⟨#[]⟩, .int .i64 3, .slice (some ⟨0, 0, none⟩) k k] (oB cs))
    else NoNames (.cells ⟨cs⟩ 9 (0, 0)) ∧ Q (.exit 0) [anyV, anyV, .slice (some ⟨0, 0, none⟩) k k] (oB cs) := by kernel_rfl
theorem qtf0 (vs : List Value) (C : List Value → AH → Prop) (Q : Value → Prop) : tfn Tryz.prog SQt [] (hook1 5 (hookLS 0 38 [4, 11, 12, 13] [0] [2, 3, 4] (fun vals h K => C vals h ∧ K (.exit 0) [anyV, anyV, .slice none 0 0] h0))) 900 [] Tryz.f7 [fz ⟨vs⟩] h0 (fun v _ => Q v) =
    bif decide (((Array.mk vs).size : Int) > 100) then Q (.tuple ⟨[.string ⟨#[]⟩, .int .i64 2]⟩) else (C [.slice none 0 0, fz ⟨vs⟩, .int .i64 ((Array.mk vs).size : Int), .int .i64 0] h0 ∧ Q (.tuple ⟨[.string ⟨#[]⟩, .int .i64 0]⟩)) := by kernel_rfl
def okJr (cs : List Value) (k : Nat) : Bool := cs.all isStr && Nat.beq cs.length k && Nat.blt 0 k && Nat.ble k k && Nat.ble k 1000 && lenJ cs ⟨#[38]⟩
noncomputable def joR (cs : List Value) : ByteArray := bl (Lib.join ((strsOf cs).map (·.data.toList)) [38])
theorem qtf1 (vs cs : List Value) (k : Nat) (C : List Value → AH → Prop) (Q : Value → Prop) : tfn Tryz.prog SQt [] (hook1 5 (hookLS 0 38 [4, 11, 12, 13] [0] [2, 3, 4] (fun vals h K => C vals h ∧ K (.exit 0) [anyV, anyV, .slice (some ⟨0, 0, none⟩) k k] (oB cs)))) 900 [] Tryz.f7 [fz ⟨vs⟩] h0 (fun v _ => Q v) =
    bif decide (((Array.mk vs).size : Int) > 100) then Q (.tuple ⟨[.string ⟨#[]⟩, .int .i64 2]⟩) else (C [.slice none 0 0, fz ⟨vs⟩, .int .i64 ((Array.mk vs).size : Int), .int .i64 0] h0 ∧
      bif okJr cs k then bif decide (((joR cs).size : Int) > 1000) then Q (.tuple ⟨[.string ⟨#[]⟩, .int .i64 2]⟩) else Q (.tuple ⟨[.string (joR cs), .int .i64 0]⟩) else False) := by kernel_rfl
theorem qtN (Q : Value → Prop) : ffn Tryz.prog SQt [] 900 [] Tryz.f7 [.slice none 0 0] h0 (fun v _ => Q v) = Q (.tuple ⟨[.string ⟨#[]⟩, .int .i64 0]⟩) := by kernel_rfl
/-! the plain side -/
theorem nnW (D : List Bs) (t : TypeId) (fr : Nat × Nat) : NoNames (.cells ⟨D.map strV⟩ t fr) := nnS D t fr
theorem apW_ok {D : List Bs} {w : Bs} {X : List Value → Nat → Prop} (hl : D.length ≤ 100000) (hX : X ((D ++ [w]).map strV) (D ++ [w]).length) : apS (D.map strV) D.length (.string (bl w)) X := by
  refine pick_f (ble_no (by omega)) (need_mk ?_ (need_mk ?_ ?_))
  · rw [Bool.and_eq_true, Nat.ble_eq, Nat.ble_eq]; omega
  · have : (0 + D.length * 1).ble (Array.mk (D.map strV)).size = true := by
      rw [Nat.ble_eq]
      show 0 + D.length * 1 ≤ (D.map strV).length
      rw [List.length_map]; omega
    rw [this]; rfl
  · have e : List.take (D.length * 1) (List.drop 0 (Array.mk (D.map strV)).toList) ++ [.string (bl w)] = (D ++ [w]).map strV := by
      rw [List.drop_zero, Nat.mul_one, List.map_append]
      show List.take D.length (D.map strV) ++ _ = _
      rw [List.take_of_length_le (by rw [List.length_map]; exact Nat.le_refl _)]
      rfl
    rw [e]
    rw [List.length_append] at hX
    exact hX
def dV : List Bs → Value
  | [] => .slice none 0 0
  | d :: D => .slice (some ⟨0, 0, none⟩) (d :: D).length (d :: D).length
def dH : List Bs → AH
  | [] => h0
  | d :: D => oB ((d :: D).map strV)
/-- Pairs that may be written. -/
def PrOk (p : Bs × Bs) : Prop := p.1.length ≤ 1000 ∧ p.2.length ≤ 1000 ∧ p ≠ ([], [])
theorem bl_emp (l : Bs) : (bl l == (⟨#[]⟩ : ByteArray)) = l.isEmpty := by
  cases l with
  | nil => rfl
  | cons c l =>
    show ((c :: l).toArray == #[]) = false
    simp
theorem emp_pr {p : Bs × Bs} (h : p ≠ ([], [])) : (s1 (prV p) == ⟨#[]⟩ && (s2 (prV p) == ⟨#[]⟩ && true)) = false := by
  obtain ⟨a, b⟩ := p
  rw [show s1 (prV (a, b)) = bl a from rfl, show s2 (prV (a, b)) = bl b from rfl, bl_emp, bl_emp]
  cases a with
  | cons c l => rfl
  | nil => cases b with
    | cons c l => rfl
    | nil => exact absurd rfl h
theorem wrX_ok {p : Bs × Bs} (hp : PrOk p) {K : ByteArray → Prop} (hK : K (bl (wr p))) : wrX (prV p) K := by
  obtain ⟨h1, h2, _⟩ := hp
  have q1 := qw_len p.1
  have q2 := qw_len p.2
  unfold wrX
  rw [show s1 (prV p) = bl p.1 from rfl, show s2 (prV p) = bl p.2 from rfl, bl_list, bl_list, show (⟨#[61]⟩ : ByteArray) = bl [61] from rfl, bl_app, bl_app, bl_size, bl_size, bl_size, bl_size]
  refine need_mk (LE2_bl (by omega)) (need_mk (Nat.ble_eq_true_of_le (by simp; omega)) (need_mk (LE2_bl (by omega)) (need_mk (Nat.ble_eq_true_of_le (by simp; omega)) ?_)))
  have e : qw p.1 ++ [61] ++ qw p.2 = wr p := by unfold wr; simp
  rw [e]
  exact hK
theorem qtR_ok {L : List (Bs × Bs)} {i : Nat} {p : Bs × Bs} {l : List (Bs × Bs)} (h : L.drop i = p :: l) (hp : PrOk p) {good : ByteArray → Prop} {bad : Prop} (hg : good (bl (wr p))) : qtR (L.map prV) (i : Int) good bad := by
  have hi : i < L.length := by
    have := congrArg List.length h
    simp at this; omega
  unfold qtR
  rw [elV_at h]
  refine need_mk ?_ ⟨rfl, pick_f (emp_pr hp.2.2) (wrX_ok hp hg)⟩
  simp only [Bool.and_eq_true, decide_eq_true_eq]
  exact ⟨⟨by omega, by simp; omega⟩, rfl⟩
theorem qt_step (L : List (Bs × Bs)) (n : Int) (i : Nat) (D : List Bs) (hD : D.length ≤ 1000) (hi : i ≤ 2000) {p : Bs × Bs} {l : List (Bs × Bs)} (hp : PrOk p) (h : L.drop i = p :: l) (hn : (i : Int) < n) (B : List Value → AH → Prop) (Q : AExit → List Value → AH → Prop)
    (hB : B [dV (D ++ [wr p]), fz ⟨L.map prV⟩, .int .i64 n, .int .i64 ((i + 1 : Nat) : Int)] (dH (D ++ [wr p]))) : once 0 Tryz.prog SQt [] noHooks 900 38 [4, 11, 12, 13] [0] [2, 3, 4] [0] (oneLoop (codeOf Tryz.f7) 5) [dV D, fz ⟨L.map prV⟩, .int .i64 n, .int .i64 (i : Int)] (dH D) B Q := by
  have w1 : W ((i : Int) + 1) = ((i + 1 : Nat) : Int) := w_nat 1 (by omega) (by omega)
  cases D with
  | nil =>
    refine (qtr0 _ _ _ B Q).mpr (pick_t (decide_eq_true hn) (qtR_ok h hp ?_))
    rw [w1]
    exact ⟨nnS [wr p] _ _, hB⟩
  | cons d D =>
    refine (qtr1 _ _ _ _ _ B Q).mpr (pick_t (decide_eq_true hn) (qtR_ok h hp ?_))
    rw [w1]
    exact apW_ok (D := d :: D) (by omega) ⟨nnS _ _ _, hB⟩
theorem qt_end (L : List (Bs × Bs)) (n : Int) (i : Int) (D : List Bs) (hn : ¬ i < n) (B : List Value → AH → Prop) (Q : AExit → List Value → AH → Prop) (hQ : Q (.exit 0) [anyV, anyV, dV D] (dH D)) : once 0 Tryz.prog SQt [] noHooks 900 38 [4, 11, 12, 13] [0] [2, 3, 4] [0] (oneLoop (codeOf Tryz.f7) 5) [dV D, fz ⟨L.map prV⟩, .int .i64 n, .int .i64 i] (dH D) B Q := by
  cases D with
  | nil => exact (qtr0 _ _ _ B Q).mpr (pick_f (decide_eq_false hn) hQ)
  | cons d D => exact (qtr1 _ _ _ _ _ B Q).mpr (pick_f (decide_eq_false hn) ⟨nnS _ _ _, hQ⟩)
theorem qt_it (n : Nat) {vals : List Value} {h : AH} {K : AExit → List Value → AH → Prop} (hx : once 0 Tryz.prog SQt [] noHooks 900 38 [4, 11, 12, 13] [0] [2, 3, 4] [0] (oneLoop (codeOf Tryz.f7) 5) vals h (fun v g => iter 0 Tryz.prog SQt [] noHooks 900 38 [4, 11, 12, 13] [0] [2, 3, 4] [0] (oneLoop (codeOf Tryz.f7) 5) n v g K) K) : iter 0 Tryz.prog SQt [] noHooks 900 38 [4, 11, 12, 13] [0] [2, 3, 4] [0] (oneLoop (codeOf Tryz.f7) 5) (n + 1) vals h K := hx
theorem qt_loop (K : AExit → List Value → AH → Prop) (L : List (Bs × Bs)) (hn : L.length ≤ 100) (hL : ∀ p ∈ L, PrOk p) : ∀ (l : List (Bs × Bs)) (i : Nat) (D : List Bs), L.drop i = l → i + l.length = L.length → D.length ≤ i →
    K (.exit 0) [anyV, anyV, dV (D ++ l.map wr)] (dH (D ++ l.map wr)) →
    iter 0 Tryz.prog SQt [] noHooks 900 38 [4, 11, 12, 13] [0] [2, 3, 4] [0] (oneLoop (codeOf Tryz.f7) 5) (l.length + 1) [dV D, fz ⟨L.map prV⟩, .int .i64 (L.length : Int), .int .i64 (i : Int)] (dH D) K
  | [], i, D, _, h2, _, hK => qt_it 0 (qt_end L _ _ D (by simp at h2; omega) _ _ (by rw [List.map_nil, List.append_nil] at hK; exact hK))
  | p :: l, i, D, h1, h2, h3, hK => by
    rw [List.length_cons] at h2
    have hp := hL p (by have : p ∈ L.drop i := by rw [h1]; simp
                        exact List.mem_of_mem_drop this)
    refine qt_it _ (qt_step L _ i D (by omega) (by omega) hp h1 (by omega) _ _ ?_)
    refine qt_loop K L hn hL l (i + 1) (D ++ [wr p]) (by rw [← List.drop_drop, h1]; rfl) (by omega) (by simp; omega) ?_
    rw [List.append_assoc]
    exact hK
theorem oneQT : (loopAt (codeOf Tryz.f7) 5).length = 1 := by kernel_rfl
theorem someQT : Tryz.f7.body.isSome = true := by kernel_rfl
def qtE (L : List (Bs × Bs)) : Int := if (qt L).length > 1000 then 2 else 0
def qtS (L : List (Bs × Bs)) : Bs := if (qt L).length > 1000 then [] else qt L
theorem qt_len : ∀ (L : List (Bs × Bs)), (∀ p ∈ L, PrOk p) → (qt L).length ≤ L.length * 6002
  | [], _ => Nat.zero_le _
  | p :: L, h => by
    have ih := qt_len L fun x hx => h x (by simp [hx])
    obtain ⟨h1, h2, _⟩ := h p (by simp)
    have q1 := qw_len p.1
    have q2 := qw_len p.2
    have hw : (wr p).length ≤ 6001 := by unfold wr; simp; omega
    cases L with
    | nil =>
      have : qt [p] = wr p := by rw [qt_cons, List.map_nil, body_nil]
      rw [this, List.length_singleton]
      omega
    | cons q l =>
      have e : qt (p :: q :: l) = wr p ++ 38 :: qt (q :: l) := by
        rw [qt_cons, qt_cons, List.map_cons, body_cons]
      rw [e, List.length_append, List.length_cons]
      simp only [List.length_cons] at ih ⊢
      omega
theorem qt_fn {L : List (Bs × Bs)} (hn : L.length ≤ 10) (hL : ∀ p ∈ L, PrOk p) : FnOK 0 Tryz.prog 7 ⟨[fz ⟨L.map prV⟩]⟩ h0 (fun v _ => v = .tuple ⟨[.string (bl (qtS L)), .int .i64 (qtE L)]⟩) := by
  have hsz : ((Array.mk (L.map prV)).size : Int) = (L.length : Int) := by simp
  have key : ∀ (cl : (AExit → List Value → AH → Prop) → Prop), (∀ K, cl K → K (.exit 0) [anyV, anyV, dV (L.map wr)] (dH (L.map wr))) →
      LSpec 0 Tryz.prog 38 (oneLoop (codeOf Tryz.f7) 5) (hookLS 0 38 [4, 11, 12, 13] [0] [2, 3, 4] (fun vals h K => (vals = [.slice none 0 0, fz ⟨L.map prV⟩, .int .i64 ((Array.mk (L.map prV)).size : Int), .int .i64 0] ∧ h = h0) ∧ cl K)) := by
    intro cl hcl
    refine hook_ok (G := []) (L := noHooks) (f := 900) (sameX := [0]) SQt_ok mixed (by decide) (loops_none _ _ _ _) ?_
    rintro vals h K ⟨⟨rfl, rfl⟩, hK⟩
    rw [hsz]
    exact ⟨_, qt_loop K L (by omega) hL L 0 [] rfl (by simp) (Nat.le_refl _) (hcl K hK)⟩
  have hlen := qt_len L hL
  cases L with
  | nil =>
    refine FnOK.ttree SQt_ok mixed Tryz.func7 someQT (loops_one oneQT (key (fun K => K (.exit 0) [anyV, anyV, .slice none 0 0] h0) fun K hK => hK)) (qtf0 [] _ (fun v => v = .tuple ⟨[.string (bl (qtS [])), .int .i64 (qtE [])]⟩)) ?_
    exact pick_f rfl ⟨⟨rfl, rfl⟩, rfl⟩
  | cons p L =>
    refine FnOK.ttree SQt_ok mixed Tryz.func7 someQT (loops_one oneQT (key (fun K => K (.exit 0) [anyV, anyV, .slice (some ⟨0, 0, none⟩) ((p :: L).map wr).length ((p :: L).map wr).length] (oB (((p :: L).map wr).map strV))) fun K hK => hK)) (qtf1 ((p :: L).map prV) (((p :: L).map wr).map strV) ((p :: L).map wr).length _ (fun v => v = .tuple ⟨[.string (bl (qtS (p :: L))), .int .i64 (qtE (p :: L))]⟩)) ?_
    have e2 : (strsOf (((p :: L).map wr).map strV)).map (·.data.toList) = (p :: L).map wr := by
      unfold strsOf
      rw [List.map_map, List.map_map]
      have : (((fun x : ByteArray => x.data.toList) ∘ toStr) ∘ strV) = id := by funext l; exact bl_list l
      rw [this, List.map_id]
    have ej : joR (((p :: L).map wr).map strV) = bl (qt (p :: L)) := by unfold joR; rw [e2]; rfl
    rw [hsz, ej, bl_size]
    refine pick_f (decide_eq_false (by omega)) ⟨⟨rfl, rfl⟩, need_mk ?_ ?_⟩
    · unfold okJr lenJ
      rw [e2]
      have hal : (((p :: L).map wr).map strV).all isStr = true := by
        rw [List.all_eq_true]
        intro v hv
        obtain ⟨l, _, rfl⟩ := List.mem_map.1 hv
        rfl
      have hll : (((p :: L).map wr).map strV).length = ((p :: L).map wr).length := List.length_map _
      have hl2 : ((p :: L).map wr).length = (p :: L).length := List.length_map _
      have hl3 : (p :: L).length = L.length + 1 := rfl
      rw [hal, hll, Nat.beq_refl, hl2]
      have b1 : Nat.blt 0 (p :: L).length = true := by rw [Nat.blt, Nat.ble_eq]; omega
      have b2 : Nat.ble (p :: L).length (p :: L).length = true := Nat.ble_eq_true_of_le (Nat.le_refl _)
      have b3 : Nat.ble (p :: L).length 1000 = true := Nat.ble_eq_true_of_le (by omega)
      rw [b1, b2, b3]
      exact Nat.ble_eq_true_of_le (show (qt (p :: L)).length ≤ 100000 by omega)
    · unfold qtS qtE
      by_cases h : (qt (p :: L)).length > 1000
      · rw [if_pos h, if_pos h]; exact pick_t (decide_eq_true (by omega)) rfl
      · rw [if_neg h, if_neg h]; exact pick_f (decide_eq_false (by omega)) rfl
def unPs (vs : List Value) : List (Bs × Bs) := vs.map unP
open Classical in
noncomputable def okPs (vs : List Value) : Bool := @decide (∃ L : List (Bs × Bs), L.length ≤ 10 ∧ (∀ p ∈ L, PrOk p) ∧ vs = L.map prV) (Classical.propDecidable _)
open Classical in
theorem okPs_iff {vs : List Value} : okPs vs = true ↔ ∃ L : List (Bs × Bs), L.length ≤ 10 ∧ (∀ p ∈ L, PrOk p) ∧ vs = L.map prV := by unfold okPs; exact decide_eq_true_iff
noncomputable def spQt (f : FuncId) (args : Array Value) (h : AH) : Option (Bool × Value × AH) :=
  cond (Nat.beq f 7) (match args with
    | ⟨[.func (.yield 0) ⟨vs⟩ ⟨[]⟩]⟩ => some (okPs vs, .tuple ⟨[.string (bl (qtS (vs.map unP))), .int .i64 (qtE (vs.map unP))]⟩, h)
    | _ => none) none
theorem spQt_ok : SpOK spQt := by
  intro f args h v h' hs
  unfold spQt at hs
  obtain ⟨hf, hs2⟩ := cond_some hs
  clear hs
  have := Nat.eq_of_beq_eq_true hf
  subst this
  split at hs2
  · injection hs2 with hs
    injection hs with hb hs
    injection hs with hv hh
    subst hv hh
    rename_i vs
    obtain ⟨L, h1, h2, rfl⟩ := okPs_iff.1 hb
    rw [unP_map]
    exact ⟨FnOK.pure (qt_fn h1 h2) rfl rfl h, Nat.le_refl _⟩
  · cases hs2
noncomputable def spQn (f : FuncId) (args : Array Value) (h : AH) : Option (Bool × Value × AH) :=
  cond (Nat.beq f 7) (match args with
    | ⟨[.slice none 0 0]⟩ => some (true, .tuple ⟨[.string ⟨#[]⟩, .int .i64 0]⟩, h)
    | _ => none) none
theorem spQn_ok : SpOK spQn := by
  intro f args h v h' hs
  unfold spQn at hs
  obtain ⟨hf, hs2⟩ := cond_some hs
  clear hs
  have := Nat.eq_of_beq_eq_true hf
  subst this
  split at hs2
  · injection hs2 with hs
    injection hs with hb hs
    injection hs with hv hh
    subst hv hh
    exact ⟨FnOK.pure (FnOK.ftree SQt_ok mixed Tryz.func7 someQT (qtN (fun v => v = .tuple ⟨[.string ⟨#[]⟩, .int .i64 0]⟩)) rfl) rfl rfl h, Nat.le_refl _⟩
  · cases hs2
end Go.Proofs.YtnaeehnkabojdaaGreatDoor
