/-
  'Fair' as a specification.
-/
import Derived.Test.YtnkobmgkndndfaaGreatDoorFairA
namespace Go.Proofs.YtnkobmgkndndfaaGreatDoor
open Go.Ev Go.RowKit FairLaw

def SFa : SC := ⟨idn, spOr spFlt spShares, true, true⟩
theorem SFa_ok : SFa.cfg.OK Tryz.prog := (spFlt_ok.or spShares_ok).cfg
def SFb : SC := ⟨idn, spOr spFlt spShares, false, true⟩
theorem SFb_ok : SFb.cfg.OK Tryz.prog := (spFlt_ok.or spShares_ok).cfg
theorem bso (xs ys : List Value) (mo lo hi : Int) (B : List Value → AH → Prop) (Q : AExit → List Value → AH → Prop) : (once 0 Tryz.prog SFa [] noHooks 300 96 [0, 1, 2, 11, 12] [] [0, 1, 2, 11] [] (oneLoop (codeOf Tryz.f6) 8) [.int .i64 mo, fz ⟨xs⟩, fz ⟨ys⟩, .int .i64 lo, .int .i64 hi] h0 B Q) = bif decide (IntKind.i64.wrap (hi - lo) > 1) then bif okW xs ys && decide (0 ≤ IntKind.i64.wrap ((IntKind.i64.wrap (lo + hi)).tdiv 2)) && decide (IntKind.i64.wrap ((IntKind.i64.wrap (lo + hi)).tdiv 2) ≤ 1000000000) then bif decide (shS xs ys (IntKind.i64.wrap ((IntKind.i64.wrap (lo + hi)).tdiv 2)) ≤ mo) then B [Value.int IntKind.i64 mo, Value.func (Fn.yield 0) { toList := xs } { toList := [] }, Value.func (Fn.yield 0) { toList := ys } { toList := [] }, Value.int IntKind.i64 (IntKind.i64.wrap ((IntKind.i64.wrap (lo + hi)).tdiv 2)), Value.int IntKind.i64 hi] { next := 0, low := 0, blocks := [] } else B [Value.int IntKind.i64 mo, Value.func (Fn.yield 0) { toList := xs } { toList := [] }, Value.func (Fn.yield 0) { toList := ys } { toList := [] }, Value.int IntKind.i64 lo, Value.int IntKind.i64 (IntKind.i64.wrap ((IntKind.i64.wrap (lo + hi)).tdiv 2))] { next := 0, low := 0, blocks := [] } else False else Q (AExit.exit 0) [Value.int IntKind.i64 mo, Value.func (Fn.yield 0) { toList := xs } { toList := [] }, Value.func (Fn.yield 0) { toList := ys } { toList := [] }, Value.int IntKind.i64 lo] { next := 0, low := 0, blocks := [] } := by kernel_rfl

/-- What is left is handed out, as it is reckoned. -/
def min3 (a b c : Int) : Int := if c < (if b < a then b else a) then c else (if b < a then b else a)
def topW (mo : Int) : List (Int × Int) → List Int → Int → List Value
  | p :: ws, o :: out, s => .int .i64 (IntKind.i64.wrap (o + min3 (IntKind.i64.wrap (p.1 - o)) p.2 (IntKind.i64.wrap (mo - s)))) :: topW mo ws out (IntKind.i64.wrap (s + min3 (IntKind.i64.wrap (p.1 - o)) p.2 (IntKind.i64.wrap (mo - s))))
  | _, _, _ => []
def LF (mo lo : Int) (xs ys : List Value) (C : List Value → AH → Prop) : Hooks := hook1 8 (hookLS 0 96 [0, 1, 2, 11, 12] [] [0, 1, 2, 11] (fun vals h K => C vals h ∧ K (.exit 0) [.int .i64 mo, fz ⟨xs⟩, fz ⟨ys⟩, .int .i64 lo] h0))
def fairK (n : Nat) (ws : List (Int × Int)) (mo lo : Int) (C : List Value → AH → Prop) (Q : Value → Option Obj → Prop) : Prop :=
  cond (okW (wV ws) (gV ws) && decide (0 ≤ mo) && decide (mo ≤ 1000)) (cond (okW (wV ws) (gV ws) && true && true)
    (cond (decide (shS (wV ws) (gV ws) 1000000000 ≤ mo)) (Q (.tuple ⟨[.slice (some ⟨0, 0, none⟩) n n, .int .i64 0]⟩) (some (.cells ⟨shC (wV ws) (gV ws) 1000000000⟩ 3 (0, 0))))
      (C [.int .i64 mo, fz ⟨wV ws⟩, fz ⟨gV ws⟩, .int .i64 0, .int .i64 1000000000] h0 ∧
        cond (okW (wV ws) (gV ws) && decide (0 ≤ lo) && decide (lo ≤ 1000000000))
          (Q (.tuple ⟨[.slice (some ⟨0, 0, none⟩) n n, .int .i64 0]⟩) (some (.cells ⟨topW mo ws (shL ws lo) (sumL (shL ws lo))⟩ 3 (0, 0)))) False)) False) False
theorem faf1 (a1 g1 mo lo : Int) (C : List Value → AH → Prop) (Q : Value → Option Obj → Prop) : tfn Tryz.prog SFb [] (LF mo lo (wV [(a1, g1)]) (gV [(a1, g1)]) C) 1000 [] Tryz.f6 [.int .i64 mo, fz ⟨wV [(a1, g1)]⟩, fz ⟨gV [(a1, g1)]⟩] h0 (fun v h => Q v (h.get 0)) =
    fairK 1 [(a1, g1)] mo lo C Q := by kernel_rfl
theorem faf2 (a1 g1 a2 g2 mo lo : Int) (C : List Value → AH → Prop) (Q : Value → Option Obj → Prop) : tfn Tryz.prog SFb [] (LF mo lo (wV [(a1, g1), (a2, g2)]) (gV [(a1, g1), (a2, g2)]) C) 1000 [] Tryz.f6 [.int .i64 mo, fz ⟨wV [(a1, g1), (a2, g2)]⟩, fz ⟨gV [(a1, g1), (a2, g2)]⟩] h0 (fun v h => Q v (h.get 0)) =
    fairK 2 [(a1, g1), (a2, g2)] mo lo C Q := by kernel_rfl
theorem faf3 (a1 g1 a2 g2 a3 g3 mo lo : Int) (C : List Value → AH → Prop) (Q : Value → Option Obj → Prop) : tfn Tryz.prog SFb [] (LF mo lo (wV [(a1, g1), (a2, g2), (a3, g3)]) (gV [(a1, g1), (a2, g2), (a3, g3)]) C) 1000 [] Tryz.f6 [.int .i64 mo, fz ⟨wV [(a1, g1), (a2, g2), (a3, g3)]⟩, fz ⟨gV [(a1, g1), (a2, g2), (a3, g3)]⟩] h0 (fun v h => Q v (h.get 0)) =
    fairK 3 [(a1, g1), (a2, g2), (a3, g3)] mo lo C Q := by kernel_rfl
theorem faf4 (a1 g1 a2 g2 a3 g3 a4 g4 mo lo : Int) (C : List Value → AH → Prop) (Q : Value → Option Obj → Prop) : tfn Tryz.prog SFb [] (LF mo lo (wV [(a1, g1), (a2, g2), (a3, g3), (a4, g4)]) (gV [(a1, g1), (a2, g2), (a3, g3), (a4, g4)]) C) 1000 [] Tryz.f6 [.int .i64 mo, fz ⟨wV [(a1, g1), (a2, g2), (a3, g3), (a4, g4)]⟩, fz ⟨gV [(a1, g1), (a2, g2), (a3, g3), (a4, g4)]⟩] h0 (fun v h => Q v (h.get 0)) =
    fairK 4 [(a1, g1), (a2, g2), (a3, g3), (a4, g4)] mo lo C Q := by kernel_rfl
theorem faf5 (a1 g1 a2 g2 a3 g3 a4 g4 a5 g5 mo lo : Int) (C : List Value → AH → Prop) (Q : Value → Option Obj → Prop) : tfn Tryz.prog SFb [] (LF mo lo (wV [(a1, g1), (a2, g2), (a3, g3), (a4, g4), (a5, g5)]) (gV [(a1, g1), (a2, g2), (a3, g3), (a4, g4), (a5, g5)]) C) 1000 [] Tryz.f6 [.int .i64 mo, fz ⟨wV [(a1, g1), (a2, g2), (a3, g3), (a4, g4), (a5, g5)]⟩, fz ⟨gV [(a1, g1), (a2, g2), (a3, g3), (a4, g4), (a5, g5)]⟩] h0 (fun v h => Q v (h.get 0)) =
    fairK 5 [(a1, g1), (a2, g2), (a3, g3), (a4, g4), (a5, g5)] mo lo C Q := by kernel_rfl
theorem faf6 (a1 g1 a2 g2 a3 g3 a4 g4 a5 g5 a6 g6 mo lo : Int) (C : List Value → AH → Prop) (Q : Value → Option Obj → Prop) : tfn Tryz.prog SFb [] (LF mo lo (wV [(a1, g1), (a2, g2), (a3, g3), (a4, g4), (a5, g5), (a6, g6)]) (gV [(a1, g1), (a2, g2), (a3, g3), (a4, g4), (a5, g5), (a6, g6)]) C) 1000 [] Tryz.f6 [.int .i64 mo, fz ⟨wV [(a1, g1), (a2, g2), (a3, g3), (a4, g4), (a5, g5), (a6, g6)]⟩, fz ⟨gV [(a1, g1), (a2, g2), (a3, g3), (a4, g4), (a5, g5), (a6, g6)]⟩] h0 (fun v h => Q v (h.get 0)) =
    fairK 6 [(a1, g1), (a2, g2), (a3, g3), (a4, g4), (a5, g5), (a6, g6)] mo lo C Q := by kernel_rfl

theorem zip_w (ws : List (Int × Int)) : zipI (wV ws) (gV ws) = ws := by
  unfold zipI wV gV
  induction ws with
  | nil => rfl
  | cons p ws ih => simp only [List.map_cons, List.zip_cons_cons] at ih ⊢; rw [ih]; rfl
theorem ok_w {ws : List (Int × Int)} (hw : OkW ws) (h1 : 1 ≤ ws.length) (h2 : ws.length ≤ 100) : okW (wV ws) (gV ws) = true := by
  unfold okW
  have e : ∀ l : List Int, (l.map iv).all isI = true := fun l => by
    rw [List.all_eq_true]
    intro v hv
    obtain ⟨n, _, rfl⟩ := List.mem_map.1 hv
    rfl
  have e1 : (wV ws).all isI = true := by
    have := e (ws.map Prod.fst)
    rw [List.map_map] at this
    exact this
  have e2 : (gV ws).all isI = true := by
    have := e (ws.map Prod.snd)
    rw [List.map_map] at this
    exact this
  have e3 : ws.all okP = true := by
    rw [List.all_eq_true]
    intro p hp
    have := hw p hp
    simp [okP]; omega
  rw [e1, e2, zip_w, e3]
  simp [wV, gV]; omega
theorem bs_loop {ws : List (Int × Int)} (hk : okW (wV ws) (gV ws) = true) (mo : Int) (K : AExit → List Value → AH → Prop) : ∀ (f : Nat) (lo hi : Int), 0 ≤ lo → lo ≤ hi → hi ≤ 1000000000 → hi - lo ≤ 2 ^ f →
    K (.exit 0) [.int .i64 mo, fz ⟨wV ws⟩, fz ⟨gV ws⟩, .int .i64 (bsL ws mo f lo hi)] h0 →
    iter 0 Tryz.prog SFa [] noHooks 300 96 [0, 1, 2, 11, 12] [] [0, 1, 2, 11] [] (oneLoop (codeOf Tryz.f6) 8) (f + 1) [.int .i64 mo, fz ⟨wV ws⟩, fz ⟨gV ws⟩, .int .i64 lo, .int .i64 hi] h0 K
  | 0, lo, hi, h1, h2, h3, h4, h5 => by
    have h4 : hi - lo ≤ 1 := by simpa using h4
    refine (bso _ _ _ _ _ _ K).mpr (pick_f ?_ h5)
    rw [wrap_id _ (by omega) (by omega)]
    exact decide_eq_false (by omega)
  | f + 1, lo, hi, h1, h2, h3, h4, h5 => by
    have e : (2 : Int) ^ (f + 1) = 2 * 2 ^ f := by rw [Int.pow_succ, Int.mul_comm]
    rw [e] at h4
    have ed : (lo + hi).tdiv 2 = (lo + hi) / 2 := Int.tdiv_eq_ediv_of_nonneg (by omega)
    have em : IntKind.i64.wrap ((IntKind.i64.wrap (lo + hi)).tdiv 2) = (lo + hi).tdiv 2 := by
      rw [wrap_id (lo + hi) (by omega) (by omega), ed]
      exact wrap_id _ (by omega) (by omega)
    by_cases hd : hi - lo > 1
    · refine (bso _ _ _ _ _ _ K).mpr (pick_t ?_ (need_mk ?_ ?_))
      · rw [wrap_id _ (by omega) (by omega)]
        exact decide_eq_true hd
      · rw [hk, em, ed]
        simp; omega
      · rw [em]
        unfold bsL at h5
        rw [if_pos hd] at h5
        have es : shS (wV ws) (gV ws) ((lo + hi).tdiv 2) = sumL (shL ws ((lo + hi).tdiv 2)) := by unfold shS; rw [zip_w]
        rw [es]
        by_cases hs : sumL (shL ws ((lo + hi).tdiv 2)) ≤ mo
        · rw [if_pos hs] at h5
          exact pick_t (decide_eq_true hs) (bs_loop hk mo K f _ hi (by omega) (by omega) h3 (by omega) h5)
        · rw [if_neg hs] at h5
          exact pick_f (decide_eq_false hs) (bs_loop hk mo K f lo _ h1 (by omega) (by omega) (by omega) h5)
    · refine (bso _ _ _ _ _ _ K).mpr (pick_f ?_ ?_)
      · rw [wrap_id _ (by omega) (by omega)]
        exact decide_eq_false hd
      · unfold bsL at h5
        rw [if_neg hd] at h5
        exact h5
theorem bs_ex {ws : List (Int × Int)} (hk : okW (wV ws) (gV ws) = true) (mo : Int) (K : AExit → List Value → AH → Prop) (f : Nat) (lo hi : Int) (h1 : 0 ≤ lo) (h2 : lo ≤ hi) (h3 : hi ≤ 1000000000) (h4 : hi - lo ≤ 2 ^ f)
    (hK : K (.exit 0) [.int .i64 mo, fz ⟨wV ws⟩, fz ⟨gV ws⟩, .int .i64 (bsL ws mo f lo hi)] h0) :
    ∃ R, iter 0 Tryz.prog SFa [] noHooks 300 96 [0, 1, 2, 11, 12] [] [0, 1, 2, 11] [] (oneLoop (codeOf Tryz.f6) 8) R [.int .i64 mo, fz ⟨wV ws⟩, fz ⟨gV ws⟩, .int .i64 lo, .int .i64 hi] h0 K :=
  ⟨_, bs_loop hk mo K f lo hi h1 h2 h3 h4 hK⟩
theorem bs_in (ws : List (Int × Int)) (mo : Int) : ∀ (f : Nat) (lo hi : Int), 0 ≤ lo → lo ≤ hi → hi ≤ 1000000000 → 0 ≤ bsL ws mo f lo hi ∧ bsL ws mo f lo hi ≤ 1000000000
  | 0, lo, hi, h1, h2, h3 => by unfold bsL; omega
  | f + 1, lo, hi, h1, h2, h3 => by
    have ed : (lo + hi).tdiv 2 = (lo + hi) / 2 := Int.tdiv_eq_ediv_of_nonneg (by omega)
    unfold bsL
    split
    · split
      · exact bs_in ws mo f _ hi (by omega) (by omega) h3
      · exact bs_in ws mo f lo _ h1 (by omega) (by omega)
    · omega
theorem topW_eq (mo : Int) (hm : mo ≤ 1000) : ∀ (ws : List (Int × Int)) (out : List Int) (s : Int), OkW ws → 0 ≤ s → s ≤ mo → (∀ x ∈ ws.zip out, 0 ≤ x.2 ∧ x.2 ≤ x.1.1) → topW mo ws out s = (topL mo ws out s).map iv
  | [], out, s, _, _, _, _ => by cases out <;> rfl
  | _ :: _, [], s, _, _, _, _ => rfl
  | p :: ws, o :: out, s, hw, h0, h1, h2 => by
    obtain ⟨k1, k2, k3, k4⟩ := hw p (by simp)
    have h3 := h2 (p, o) (by simp)
    simp only at h3
    have e1 : IntKind.i64.wrap (p.1 - o) = p.1 - o := wrap_id _ (by omega) (by omega)
    have e2 : IntKind.i64.wrap (mo - s) = mo - s := wrap_id _ (by omega) (by omega)
    have e3 : min3 (p.1 - o) p.2 (mo - s) = min (min (p.1 - o) p.2) (mo - s) := by
      unfold min3
      split <;> split <;> omega
    have ih := topW_eq mo hm ws out (s + min (min (p.1 - o) p.2) (mo - s)) (fun q hq => hw q (by simp [hq])) (by omega) (by omega) (fun x hx => h2 x (by simp [hx]))
    simp only [topW, topL, List.map_cons]
    rw [e1, e2, e3, wrap_id (o + _) (by omega) (by omega), wrap_id (s + _) (by omega) (by omega), ih]
    rfl
theorem freezeV {p : Nat} {P : Program} {h : AH} {b : Nat} {t : TypeId} {fr : Nat × Nat} (e : Value) (l : List Int) {m : Nat} (hm : l.length = m) (hb : h.get b = some (.cells ⟨l.map iv⟩ t fr)) :
    Weak p P ⟨[.slice (some ⟨b, 0, none⟩) m m, e]⟩ h ⟨[fz ⟨l.map iv⟩, e]⟩ (h.del b) := by
  refine Weak.freeze (n := m) (cap := m) b 1 ⟨l.map iv⟩ hb ?_ (by simpa using hm) (Nat.le_refl _) (by simp; omega) ?_ ?_ rfl ?_
  · intro v hv
    obtain ⟨s, _, rfl⟩ := List.mem_map.1 (show v ∈ l.map iv by simpa using hv)
    rfl
  · intro i x hx
    have hx : (l.map iv)[i]? = some x := by simpa using hx
    rw [List.getElem?_map] at hx
    obtain ⟨q, _, rfl⟩ := Option.map_eq_some_iff.1 hx
    rfl
  · intro i j x v hx hv
    have hx : (l.map iv)[i]? = some x := by simpa using hx
    have hx0 := hx
    rw [List.getElem?_map] at hx
    obtain ⟨q, _, rfl⟩ := Option.map_eq_some_iff.1 hx
    match j, hv with
    | 0, hv =>
      have : iv q = v := by simpa [iv, Value.cells] using hv
      rw [← this, Nat.mul_one, Nat.add_zero]
      simpa using hx0
    | j + 1, hv => simp [iv, Value.cells] at hv
  · intro i
    match i with
    | 0 => exact .inr ⟨rfl, rfl⟩
    | i + 1 => exact .inl (by simp)
theorem one6 : (loopAt (codeOf Tryz.f6) 8).length = 1 := by kernel_rfl
theorem some6 : Tryz.f6.body.isSome = true := by kernel_rfl
theorem LF_ok {ws : List (Int × Int)} (hk : okW (wV ws) (gV ws) = true) (mo : Int) : LoopsOK 0 Tryz.prog 96 (LF mo (bsL ws mo 30 0 1000000000) (wV ws) (gV ws) (fun vals h => vals = [.int .i64 mo, fz ⟨wV ws⟩, fz ⟨gV ws⟩, .int .i64 0, .int .i64 1000000000] ∧ h = h0)) (codeOf Tryz.f6) := by
  refine loops_one one6 ?_
  refine hook_ok (G := []) (L := noHooks) (f := 300) (sameX := []) SFa_ok mixed (by decide) (loops_none _ _ _ _) ?_
  rintro vals h K ⟨⟨rfl, rfl⟩, hK⟩
  exact bs_ex hk mo K 30 0 1000000000 (by omega) (by omega) (by omega) (by decide) hK
theorem fairK_ok {n : Nat} {ws : List (Int × Int)} (hn : ws.length = n) (h1 : 1 ≤ n) (h6 : n ≤ 6) (hw : OkW ws) {mo : Int} (hm0 : 0 ≤ mo) (hm1 : mo ≤ 1000) :
    fairK n ws mo (bsL ws mo 30 0 1000000000) (fun vals h => vals = [.int .i64 mo, fz ⟨wV ws⟩, fz ⟨gV ws⟩, .int .i64 0, .int .i64 1000000000] ∧ h = h0)
      (fun v o => v = .tuple ⟨[.slice (some ⟨0, 0, none⟩) n n, .int .i64 0]⟩ ∧ o = some (.cells ⟨(fairL ws mo 1000000000 30).map iv⟩ 3 (0, 0))) := by
  have hk := ok_w hw (by omega) (by omega)
  have hb := bs_in ws mo 30 0 1000000000 (by omega) (by omega) (by omega)
  unfold fairK
  refine need_mk (by rw [hk]; simp [hm0, hm1]) (need_mk (by rw [hk]; rfl) ?_)
  have es : shS (wV ws) (gV ws) 1000000000 = sumL (shL ws 1000000000) := by unfold shS; rw [zip_w]
  have ec : shC (wV ws) (gV ws) 1000000000 = (shL ws 1000000000).map iv := by unfold shC; rw [zip_w]
  rw [es, ec]
  by_cases hs : sumL (shL ws 1000000000) ≤ mo
  · refine pick_t (decide_eq_true hs) ⟨rfl, ?_⟩
    unfold fairL
    rw [if_pos hs]
  · refine pick_f (decide_eq_false hs) ⟨⟨rfl, rfl⟩, need_mk (by rw [hk]; simp [hb.1, hb.2]) ⟨rfl, ?_⟩⟩
    unfold fairL
    rw [if_neg hs]
    unfold fairAt
    have hws : ∀ p ∈ ws, 0 ≤ p.1 := fun p hp => (hw p hp).1
    have hlow := bs_low ws mo 30 0 1000000000 (by omega) (by omega) (by decide) (by rw [sum_zero hws]; exact hm0) (by omega)
    obtain ⟨l0, l1, l2⟩ := hlow
    rw [topW_eq mo hm1 ws _ _ hw ?_ l1 ?_]
    · have : ∀ (ws : List (Int × Int)) (lv : Int), 0 ≤ lv → (∀ p ∈ ws, 0 ≤ p.1 ∧ 0 ≤ p.2) → 0 ≤ sumL (shL ws lv) := by
        intro ws lv hl
        induction ws with
        | nil => intro _; exact Int.le_refl _
        | cons p ws ih =>
          intro h
          have i1 := ih fun q hq => h q (by simp [hq])
          have i2 := h p (by simp)
          have i3 := Int.mul_nonneg i2.2 hl
          simp only [shL, List.map_cons, sumL] at i1 ⊢
          omega
      exact this ws _ l0 fun p hp => by have := hw p hp; omega
    · intro x hx
      refine ⟨?_, zip_sh x hx⟩
      have : ∀ (ws : List (Int × Int)) (lv : Int), 0 ≤ lv → (∀ p ∈ ws, 0 ≤ p.1 ∧ 0 ≤ p.2) → ∀ x ∈ ws.zip (shL ws lv), 0 ≤ x.2 := by
        intro ws lv hl
        induction ws with
        | nil => intro _ x hx; simp [shL] at hx
        | cons p ws ih =>
          intro h x hx
          simp only [shL, List.map_cons, List.zip_cons_cons, List.mem_cons] at hx
          have i2 := h p (by simp)
          have i3 := Int.mul_nonneg i2.2 hl
          rcases hx with rfl | hx
          · simp only; omega
          · exact ih (fun q hq => h q (by simp [hq])) x hx
      exact this ws _ l0 (fun p hp => by have := hw p hp; omega) x hx
theorem fairL_len {ws : List (Int × Int)} (hw : OkW ws) {mo : Int} (hm0 : 0 ≤ mo) : (fairL ws mo 1000000000 30).length = ws.length :=
  (fair_good (M := 1000000000) (fun p hp => by have := hw p hp; omega) hm0 (by omega) (by decide)).len
theorem fair_fn {ws : List (Int × Int)} (hw : OkW ws) (h1 : 1 ≤ ws.length) (h6 : ws.length ≤ 6) {mo : Int} (hm0 : 0 ≤ mo) (hm1 : mo ≤ 1000) :
    FnOK 0 Tryz.prog 6 ⟨[.int .i64 mo, fz ⟨wV ws⟩, fz ⟨gV ws⟩]⟩ h0 (fun v _ => v = .tuple ⟨[fz ⟨(fairL ws mo 1000000000 30).map iv⟩, .int .i64 0]⟩) := by
  refine FnOK.weakT ?_
  have hk := ok_w hw h1 (by omega)
  have hl := LF_ok hk mo
  have hK := fairK_ok rfl h1 h6 hw hm0 hm1
  have hlen := fairL_len hw hm0
  have main : FnOK 0 Tryz.prog 6 ⟨[.int .i64 mo, fz ⟨wV ws⟩, fz ⟨gV ws⟩]⟩ h0 (fun v g => v = .tuple ⟨[.slice (some ⟨0, 0, none⟩) ws.length ws.length, .int .i64 0]⟩ ∧ g.get 0 = some (.cells ⟨(fairL ws mo 1000000000 30).map iv⟩ 3 (0, 0))) := by
    match ws, h1, h6, hl, hK with
    | [(a1, g1)], _, _, hl, hK => exact FnOK.ttree SFb_ok mixed Tryz.func6 some6 hl (faf1 a1 g1 mo _ _ (fun v o => v = .tuple ⟨[.slice (some ⟨0, 0, none⟩) 1 1, .int .i64 0]⟩ ∧ o = some (.cells ⟨(fairL [(a1, g1)] mo 1000000000 30).map iv⟩ 3 (0, 0)))) hK
    | [(a1, g1), (a2, g2)], _, _, hl, hK => exact FnOK.ttree SFb_ok mixed Tryz.func6 some6 hl (faf2 a1 g1 a2 g2 mo _ _ (fun v o => v = .tuple ⟨[.slice (some ⟨0, 0, none⟩) 2 2, .int .i64 0]⟩ ∧ o = some (.cells ⟨(fairL [(a1, g1), (a2, g2)] mo 1000000000 30).map iv⟩ 3 (0, 0)))) hK
    | [(a1, g1), (a2, g2), (a3, g3)], _, _, hl, hK => exact FnOK.ttree SFb_ok mixed Tryz.func6 some6 hl (faf3 a1 g1 a2 g2 a3 g3 mo _ _ (fun v o => v = .tuple ⟨[.slice (some ⟨0, 0, none⟩) 3 3, .int .i64 0]⟩ ∧ o = some (.cells ⟨(fairL [(a1, g1), (a2, g2), (a3, g3)] mo 1000000000 30).map iv⟩ 3 (0, 0)))) hK
    | [(a1, g1), (a2, g2), (a3, g3), (a4, g4)], _, _, hl, hK => exact FnOK.ttree SFb_ok mixed Tryz.func6 some6 hl (faf4 a1 g1 a2 g2 a3 g3 a4 g4 mo _ _ (fun v o => v = .tuple ⟨[.slice (some ⟨0, 0, none⟩) 4 4, .int .i64 0]⟩ ∧ o = some (.cells ⟨(fairL [(a1, g1), (a2, g2), (a3, g3), (a4, g4)] mo 1000000000 30).map iv⟩ 3 (0, 0)))) hK
    | [(a1, g1), (a2, g2), (a3, g3), (a4, g4), (a5, g5)], _, _, hl, hK => exact FnOK.ttree SFb_ok mixed Tryz.func6 some6 hl (faf5 a1 g1 a2 g2 a3 g3 a4 g4 a5 g5 mo _ _ (fun v o => v = .tuple ⟨[.slice (some ⟨0, 0, none⟩) 5 5, .int .i64 0]⟩ ∧ o = some (.cells ⟨(fairL [(a1, g1), (a2, g2), (a3, g3), (a4, g4), (a5, g5)] mo 1000000000 30).map iv⟩ 3 (0, 0)))) hK
    | [(a1, g1), (a2, g2), (a3, g3), (a4, g4), (a5, g5), (a6, g6)], _, _, hl, hK => exact FnOK.ttree SFb_ok mixed Tryz.func6 some6 hl (faf6 a1 g1 a2 g2 a3 g3 a4 g4 a5 g5 a6 g6 mo _ _ (fun v o => v = .tuple ⟨[.slice (some ⟨0, 0, none⟩) 6 6, .int .i64 0]⟩ ∧ o = some (.cells ⟨(fairL [(a1, g1), (a2, g2), (a3, g3), (a4, g4), (a5, g5), (a6, g6)] mo 1000000000 30).map iv⟩ 3 (0, 0)))) hK
    | _ :: _ :: _ :: _ :: _ :: _ :: _ :: _, _, h6, _, _ => simp at h6
  refine main.mono ?_
  rintro v g ⟨rfl, hb⟩
  exact ⟨_, _, _, rfl, freezeV _ (fairL ws mo 1000000000 30) hlen hb, rfl⟩
noncomputable def fairB (ms : List Value) (mo : Int) (xs ys : List Value) : Bool := @decide (okW xs ys = true ∧ xs.length ≤ 6 ∧ 0 ≤ mo ∧ mo ≤ 1000 ∧ (fairL (zipI xs ys) mo 1000000000 30).map iv = ms) (Classical.propDecidable _)
theorem fairB_eq {ms : List Value} {mo : Int} {xs ys : List Value} : fairB ms mo xs ys = true ↔ (okW xs ys = true ∧ xs.length ≤ 6 ∧ 0 ≤ mo ∧ mo ≤ 1000 ∧ (fairL (zipI xs ys) mo 1000000000 30).map iv = ms) := by unfold fairB; exact @decide_eq_true_iff _ (Classical.propDecidable _)
noncomputable def spFairT (ms : List Value) (f : FuncId) (args : Array Value) (h : AH) : Option (Bool × Value × AH) :=
  cond (Nat.beq f 6) (match args with
    | ⟨[.int .i64 mo, .func (.yield 0) ⟨xs⟩ ⟨[]⟩, .func (.yield 0) ⟨ys⟩ ⟨[]⟩]⟩ => some (fairB ms mo xs ys, .tuple ⟨[fz ⟨ms⟩, .int .i64 0]⟩, h)
    | _ => none) none
theorem spFairT_ok (ms : List Value) : SpOK (spFairT ms) := by
  intro f args h v h' hs
  unfold spFairT at hs
  obtain ⟨hf, hs2⟩ := cond_some hs
  clear hs
  have := Nat.eq_of_beq_eq_true hf
  subst this
  split at hs2
  · injection hs2 with hs
    injection hs with hb hs
    injection hs with hv hh
    subst hv hh
    obtain ⟨b1, b2, b3, b4, b5⟩ := fairB_eq.1 hb
    obtain ⟨e1, e2, e3, e4, e5, e6⟩ := okW_ok b1
    have hF := fair_fn e3 (by rcases Nat.eq_zero_or_pos (zipI _ _).length with q | q; exact (e5 (List.length_eq_zero_iff.1 q)).elim; exact q) (by omega) b3 b4
    rw [← e1, ← e2, b5] at hF
    exact ⟨FnOK.pure hF rfl rfl h, Nat.le_refl _⟩
  · cases hs2
end Go.Proofs.YtnkobmgkndndfaaGreatDoor
