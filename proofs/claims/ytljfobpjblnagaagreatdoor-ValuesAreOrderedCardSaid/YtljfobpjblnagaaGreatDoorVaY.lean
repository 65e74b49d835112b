/-
  Values as texts: the text of each drawn value.
-/
import Derived.Test.YtljfobpjblnagaaGreatDoorVaX
namespace Go.Proofs.YtljfobpjblnagaaGreatDoor
open Go.Ev Go.RowKit
set_option maxRecDepth 20000

theorem wl_all {α : Type} {g : α → Value} {f : α → List UInt8} (hg : ∀ x, g x = e6 (g x)) (K : AExit → List Value → AH → Prop) (xs : List α) (hl : xs.length ≤ 5000) (cs : List Value) (j : Nat) (h3 : ∀ x ∈ xs, WvB (g x) ((f x).map byV)) (h4 : cs.length = j) (h5 : cs.all p1 = true) (h6 : j + (ValLaw.lst f xs).length ≤ 199999)
    (hK : K (.exit 3) [p0V] (wH (cs ++ (ValLaw.lst f xs).map byV) (j + (ValLaw.lst f xs).length))) : ∃ r, iterE 1 Tryz.prog 111 [0, 90, 91, 92] [1] [0] [1] (oneLoop (codeOf Tryz.f31) 25) r [p0V, fz ⟨xs.map g⟩, .int .i64 (xs.length : Int), .int .i64 0] (wH cs j) K := by
  match xs, hl, h3, h6, hK with
  | [], hl, h3, h6, hK =>
    have hK : K (.exit 3) [p0V] (wH (cs ++ []) (j + 0)) := hK
    rw [List.append_nil] at hK
    refine ⟨0 + 1, ?_⟩
    exact ⟨SWv false undef [], [], noHooks, 900, (spWv_ok (ok := false) (fun h => Bool.noConfusion h)).cfg, loops_none _ _ _ _, (wl_rd1 false undef [] _ _ [] cs j _ K).mpr (pick_f rfl ⟨nn_all h5, hK⟩)⟩
  | x :: zs, hl, h3, h6, hK =>
    refine ⟨zs.length + 1 + 1, ?_⟩
    have ex : elV ((x :: zs).map g) 0 = g x := rfl
    have hb : (decide (0 ≤ (0 : Int)) && decide ((0 : Int) < ((Array.mk ((x :: zs).map g)).size : Int)) && Nat.beq (e6 (elV ((x :: zs).map g) 0)).cells.size 6) = true := by
      simp only [Bool.and_eq_true, decide_eq_true_eq]
      exact ⟨⟨by omega, by simp⟩, rfl⟩
    have hx := h3 x (by simp)
    rw [lst_rest] at h6 hK
    have ln : (f x ++ rest f zs).length = (f x).length + (rest f zs).length := List.length_append ..
    rw [ln] at h6 hK
    have next := fun cs' (hc : cs' = cs ++ (f x).map byV) j' (hj : j' = j + (f x).length) => wl_loop hg K (x :: zs) hl zs 1 cs' j' (Nat.le_refl _) rfl (by rw [List.length_cons]; omega) (fun y hy => h3 y (by simp [hy])) (by rw [hc, hj]; simp only [List.length_append, List.length_map, h4]) (by rw [hc, List.all_append, h5, by_p1]; rfl) (by omega) (by
      have e3 : cs' ++ (rest f zs).map byV = cs ++ (f x ++ rest f zs).map byV := by rw [hc]; simp
      have e4 : j' + (rest f zs).length = j + ((f x).length + (rest f zs).length) := by omega
      rw [e3, e4]; exact hK)
    refine ⟨SWv true (g x) ((f x).map byV), [], noHooks, 900, (spWv_ok fun _ => hx).cfg, loops_none _ _ _ _, (wl_rd1 true (g x) ((f x).map byV) _ _ ((x :: zs).map g) cs j _ K).mpr ?_⟩
    refine pick_t (decide_eq_true (by rw [List.length_cons]; omega)) (need_mk hb ⟨by rw [ex]; exact hg x, pick_f rfl ?_⟩)
    refine need_mk (wvC_mk (by rw [ex, ← hg x]) h4 (by rw [List.length_map]; omega) h5 (by_p1 _)) ?_
    have e0 : IntKind.i64.wrap ((0 : Int) + 1) = ((1 : Nat) : Int) := rfl
    rw [e0, List.length_map]
    exact ⟨nn_all (by rw [List.all_append, h5, by_p1]; rfl), next _ rfl _ rfl⟩
theorem wm_all {α : Type} {g : α → Value} {f : α → List UInt8} (hg : ∀ x, g x = e7 (g x)) (K : AExit → List Value → AH → Prop) (xs : List α) (hl : xs.length ≤ 5000) (cs : List Value) (j : Nat) (h3 : ∀ x ∈ xs, (∃ (w u : List UInt8), f x = ValLaw.qt w ++ 58 :: u ∧ FnOK 0 Tryz.prog 53 ⟨[.string (bl w)]⟩ h0 (fun v _ => v = .string (bl (ValLaw.qt w))) ∧ WvB (m6 (g x)) (u.map byV) ∧ g x = mbr w (m6 (g x)))) (h4 : cs.length = j) (h5 : cs.all p1 = true) (h6 : j + (ValLaw.lst f xs).length ≤ 199999)
    (hK : K (.exit 1) [p0V] (wH (cs ++ (ValLaw.lst f xs).map byV) (j + (ValLaw.lst f xs).length))) : ∃ r, iterE 1 Tryz.prog 111 [0, 17, 18, 19] [1] [0] [1] (oneLoop (codeOf Tryz.f31) 5) r [p0V, fz ⟨xs.map g⟩, .int .i64 (xs.length : Int), .int .i64 0] (wH cs j) K := by
  match xs, hl, h3, h6, hK with
  | [], hl, h3, h6, hK =>
    have hK : K (.exit 1) [p0V] (wH (cs ++ []) (j + 0)) := hK
    rw [List.append_nil] at hK
    refine ⟨0 + 1, ?_⟩
    have hq0 : SpOK (spOr (spQt (.string (elS [] 0)) (bl (ValLaw.qt []))) (spWv false undef [])) := (spQt_ok qt0_fn).or (spWv_ok (ok := false) (fun h => Bool.noConfusion h))
    exact ⟨SWq false undef [] (.string (elS [] 0)) (bl (ValLaw.qt [])), [], noHooks, 900, hq0.cfg, loops_none _ _ _ _, (wm_rd1 false undef [] (bl (ValLaw.qt [])) _ _ [] cs j _ K).mpr (pick_f rfl ⟨nn_all h5, hK⟩)⟩
  | x :: zs, hl, h3, h6, hK =>
    refine ⟨zs.length + 1 + 1, ?_⟩
    have ex : elV ((x :: zs).map g) 0 = g x := rfl
    have hb : (decide (0 ≤ (0 : Int)) && decide ((0 : Int) < ((Array.mk ((x :: zs).map g)).size : Int)) && Nat.beq (e7 (elV ((x :: zs).map g) 0)).cells.size 7) = true := by
      simp only [Bool.and_eq_true, decide_eq_true_eq]
      exact ⟨⟨by omega, by simp⟩, rfl⟩
    have hx := h3 x (by simp)
    rw [lst_rest] at h6 hK
    have ln : (f x ++ rest f zs).length = (f x).length + (rest f zs).length := List.length_append ..
    rw [ln] at h6 hK
    have next := fun cs' (hc : cs' = cs ++ (f x).map byV) j' (hj : j' = j + (f x).length) => wm_loop hg K (x :: zs) hl zs 1 cs' j' (Nat.le_refl _) rfl (by rw [List.length_cons]; omega) (fun y hy => h3 y (by simp [hy])) (by rw [hc, hj]; simp only [List.length_append, List.length_map, h4]) (by rw [hc, List.all_append, h5, by_p1]; rfl) (by omega) (by
      have e3 : cs' ++ (rest f zs).map byV = cs ++ (f x ++ rest f zs).map byV := by rw [hc]; simp
      have e4 : j' + (rest f zs).length = j + ((f x).length + (rest f zs).length) := by omega
      rw [e3, e4]; exact hK)
    obtain ⟨w, u, hf, hq, hw, hgx⟩ := hx
    have eN : elS ((x :: zs).map g) 0 = bl w := by unfold elS; rw [ex, hgx]; rfl
    have e6' : m6 (elV ((x :: zs).map g) 0) = m6 (g x) := by rw [ex]
    have key : ∀ q, q = bl (ValLaw.qt w) → SpOK (spOr (spQt (.string (elS ((x :: zs).map g) 0)) q) (spWv true (m6 (g x)) (u.map byV))) := fun q hq2 => by
      rw [eN, hq2]
      exact (spQt_ok hq).or (spWv_ok fun _ => hw)
    refine ⟨SWq true (m6 (g x)) (u.map byV) (.string (elS ((x :: zs).map g) 0)) (bl (ValLaw.qt w)), [], noHooks, 900, (key _ rfl).cfg, loops_none _ _ _ _, (wm_rd1 true (m6 (g x)) (u.map byV) (bl (ValLaw.qt w)) _ _ ((x :: zs).map g) cs j _ K).mpr ?_⟩
    have lf : (f x).length = (ValLaw.qt w).length + 1 + u.length := by rw [hf, List.length_append, List.length_cons]; omega
    refine pick_t (decide_eq_true (by rw [List.length_cons]; omega)) (need_mk hb ⟨by rw [ex]; exact hg x, pick_f rfl ?_⟩)
    refine need_mk (eqV_self _) (wrS_mk (s := ValLaw.qt w) h4 h5 (qt_pos w) (by omega) ?_)
    refine wrS_mk (s := [58]) (by simp only [List.length_append, List.length_map, h4]) (by rw [List.all_append, h5, by_p1]; rfl) (by decide) (by show j + (ValLaw.qt w).length + 1 ≤ 200000; omega) ?_
    refine need_mk (wvC_mk e6' (by simp only [List.length_append, List.length_map, h4]) (by rw [List.length_map]; show j + (ValLaw.qt w).length + 1 + u.length ≤ 200000; omega) (by rw [List.all_append, List.all_append, h5, by_p1, by_p1]; rfl) (by_p1 _)) ?_
    have e0 : IntKind.i64.wrap ((0 : Int) + 1) = ((1 : Nat) : Int) := rfl
    rw [e0, List.length_map]
    refine ⟨nn_all (by rw [List.all_append, List.all_append, List.all_append, h5, by_p1, by_p1, by_p1]; rfl), next _ ?_ _ ?_⟩
    · rw [hf]; simp
    · show j + (ValLaw.qt w).length + 1 + u.length = _
      omega

/-- A value and its text. -/
def Wr (x : Value) (t : List UInt8) : Prop := pr x = true ∧ (t ≠ [] → t.length ≤ 200000 →
  (∀ (cs : List Value) (n : Nat), cs.length = n → cs.all p1 = true → n + t.length ≤ 200000 →
    FnOK 1 Tryz.prog 31 ⟨[p0V, x]⟩ (wH cs n) (fun v g => v = .tuple ⟨[]⟩ ∧ wrN (g.get 0) = some (p0V, n + t.length, n + t.length) ∧ g.get (wrB (g.get 0)) = some (.cells ⟨cs ++ t.map byV⟩ 5 (0, 0)))) ∧
  FnOK 1 Tryz.prog 31 ⟨[p0V, x]⟩ wN (fun v g => v = .tuple ⟨[]⟩ ∧ wrN (g.get 0) = some (p0V, t.length, t.length) ∧ g.get (wrB (g.get 0)) = some (.cells ⟨t.map byV⟩ 5 (0, 0))))
theorem Wr.wv {x : Value} {t : List UInt8} (h : Wr x t) (hne : t ≠ []) (ht : t.length ≤ 200000) : WvB x (t.map byV) := by
  refine ⟨by_p1 t, h.1, fun cs n h1 h2 h3 => ?_⟩
  rw [List.length_map] at h3 ⊢
  exact (h.2 hne ht).1 cs n h1 h2 h3
theorem wk0  : Wr (vV 0 false 0 ⟨#[]⟩ [] []) ([110, 117, 108, 108]) := by
  refine ⟨rfl, fun hne hlt => ⟨fun cs n hl hcs hn => ?_, ?_⟩⟩
  · have e0 := wv_b0  cs n (fun (v : Value) (o : Option (Value × Nat × Nat)) (o2 : Option Obj) => v = .tuple ⟨[]⟩ ∧ o = some (p0V, n + ([110, 117, 108, 108]).length, n + ([110, 117, 108, 108]).length) ∧ o2 = some (.cells ⟨cs ++ ([110, 117, 108, 108]).map byV⟩ 5 (0, 0)))
    exact (FnOK.ttree SP0_ok mixed Tryz.func31 someWV (loops_none _ _ _ _) e0 (pick_f (decide_eq_false (by omega)) (wrS_mk (s := [110, 117, 108, 108]) hl hcs hne hn ⟨rfl, rfl, rfl⟩))).mono fun v g h => h
  · have e0 := wv_n0  (fun (v : Value) (o : Option (Value × Nat × Nat)) (o2 : Option Obj) => v = .tuple ⟨[]⟩ ∧ o = some (p0V, ([110, 117, 108, 108]).length, ([110, 117, 108, 108]).length) ∧ o2 = some (.cells ⟨([110, 117, 108, 108]).map byV⟩ 5 (0, 0)))
    exact (FnOK.ttree SP0_ok mixed Tryz.func31 someWV (loops_none _ _ _ _) e0 ((wr0_mk (s := [110, 117, 108, 108]) hne hlt ⟨rfl, rfl, rfl⟩))).mono fun v g h => h
theorem wk1 (f : Bool) : Wr (vV 1 f 0 ⟨#[]⟩ [] []) (if f then ValLaw.trueB else ValLaw.falseB) := by
  cases f
  · refine ⟨rfl, fun hne hlt => ⟨fun cs n hl hcs hn => ?_, ?_⟩⟩
    · have e0 := wv_b1 false cs n (fun (v : Value) (o : Option (Value × Nat × Nat)) (o2 : Option Obj) => v = .tuple ⟨[]⟩ ∧ o = some (p0V, n + (ValLaw.falseB).length, n + (ValLaw.falseB).length) ∧ o2 = some (.cells ⟨cs ++ (ValLaw.falseB).map byV⟩ 5 (0, 0)))
      exact (FnOK.ttree SP0_ok mixed Tryz.func31 someWV (loops_none _ _ _ _) e0 (pick_f (decide_eq_false (by omega)) (pick_f rfl (wrS_mk (s := ValLaw.falseB) hl hcs hne hn ⟨rfl, rfl, rfl⟩)))).mono fun v g h => h
    · have e0 := wv_n1 false (fun (v : Value) (o : Option (Value × Nat × Nat)) (o2 : Option Obj) => v = .tuple ⟨[]⟩ ∧ o = some (p0V, (ValLaw.falseB).length, (ValLaw.falseB).length) ∧ o2 = some (.cells ⟨(ValLaw.falseB).map byV⟩ 5 (0, 0)))
      exact (FnOK.ttree SP0_ok mixed Tryz.func31 someWV (loops_none _ _ _ _) e0 (pick_f rfl (wr0_mk (s := ValLaw.falseB) hne hlt ⟨rfl, rfl, rfl⟩))).mono fun v g h => h
  · refine ⟨rfl, fun hne hlt => ⟨fun cs n hl hcs hn => ?_, ?_⟩⟩
    · have e0 := wv_b1 true cs n (fun (v : Value) (o : Option (Value × Nat × Nat)) (o2 : Option Obj) => v = .tuple ⟨[]⟩ ∧ o = some (p0V, n + (ValLaw.trueB).length, n + (ValLaw.trueB).length) ∧ o2 = some (.cells ⟨cs ++ (ValLaw.trueB).map byV⟩ 5 (0, 0)))
      exact (FnOK.ttree SP0_ok mixed Tryz.func31 someWV (loops_none _ _ _ _) e0 (pick_f (decide_eq_false (by omega)) (pick_t rfl (wrS_mk (s := ValLaw.trueB) hl hcs hne hn ⟨rfl, rfl, rfl⟩)))).mono fun v g h => h
    · have e0 := wv_n1 true (fun (v : Value) (o : Option (Value × Nat × Nat)) (o2 : Option Obj) => v = .tuple ⟨[]⟩ ∧ o = some (p0V, (ValLaw.trueB).length, (ValLaw.trueB).length) ∧ o2 = some (.cells ⟨(ValLaw.trueB).map byV⟩ 5 (0, 0)))
      exact (FnOK.ttree SP0_ok mixed Tryz.func31 someWV (loops_none _ _ _ _) e0 (pick_t rfl (wr0_mk (s := ValLaw.trueB) hne hlt ⟨rfl, rfl, rfl⟩))).mono fun v g h => h
theorem wk2 {n0 : Int} (h0 : -1000000000000000 ≤ n0) (h1 : n0 ≤ 1000000000000000) : Wr (vV 2 false n0 ⟨#[]⟩ [] []) (Lib.itoa n0) := by
  refine ⟨rfl, fun hne hlt => ⟨fun cs n hl hcs hn => ?_, ?_⟩⟩
  · have e0 := wv_b2 n0 (bl (Lib.itoa n0)) cs n (fun (v : Value) (o : Option (Value × Nat × Nat)) (o2 : Option Obj) => v = .tuple ⟨[]⟩ ∧ o = some (p0V, n + (Lib.itoa n0).length, n + (Lib.itoa n0).length) ∧ o2 = some (.cells ⟨cs ++ (Lib.itoa n0).map byV⟩ 5 (0, 0)))
    exact (FnOK.ttree (spIt_ok h0 h1).cfg mixed Tryz.func31 someWV (loops_none _ _ _ _) e0 (pick_f (decide_eq_false (by omega)) (need_mk (eqV_self _) (wrS_mk (s := Lib.itoa n0) hl hcs hne hn ⟨rfl, rfl, rfl⟩)))).mono fun v g h => h
  · have e0 := wv_n2 n0 (bl (Lib.itoa n0)) (fun (v : Value) (o : Option (Value × Nat × Nat)) (o2 : Option Obj) => v = .tuple ⟨[]⟩ ∧ o = some (p0V, (Lib.itoa n0).length, (Lib.itoa n0).length) ∧ o2 = some (.cells ⟨(Lib.itoa n0).map byV⟩ 5 (0, 0)))
    exact (FnOK.ttree (spIt_ok h0 h1).cfg mixed Tryz.func31 someWV (loops_none _ _ _ _) e0 (need_mk (eqV_self _) (wr0_mk (s := Lib.itoa n0) hne hlt ⟨rfl, rfl, rfl⟩))).mono fun v g h => h
theorem wk3 {w : List UInt8} (hw : w ∈ ValLaw.wordsU) : Wr (vV 3 false 0 (bl w) [] []) (ValLaw.qt w) := by
  refine ⟨rfl, fun hne hlt => ⟨fun cs n hl hcs hn => ?_, ?_⟩⟩
  · have e0 := wv_b3 (bl w) (bl (ValLaw.qt w)) cs n (fun (v : Value) (o : Option (Value × Nat × Nat)) (o2 : Option Obj) => v = .tuple ⟨[]⟩ ∧ o = some (p0V, n + (ValLaw.qt w).length, n + (ValLaw.qt w).length) ∧ o2 = some (.cells ⟨cs ++ (ValLaw.qt w).map byV⟩ 5 (0, 0)))
    exact (FnOK.ttree (spQt_ok (qt_all w (List.mem_append_left _ hw))).cfg mixed Tryz.func31 someWV (loops_none _ _ _ _) e0 (pick_f (decide_eq_false (by omega)) (need_mk (eqV_self _) (wrS_mk (s := ValLaw.qt w) hl hcs hne hn ⟨rfl, rfl, rfl⟩)))).mono fun v g h => h
  · have e0 := wv_n3 (bl w) (bl (ValLaw.qt w)) (fun (v : Value) (o : Option (Value × Nat × Nat)) (o2 : Option Obj) => v = .tuple ⟨[]⟩ ∧ o = some (p0V, (ValLaw.qt w).length, (ValLaw.qt w).length) ∧ o2 = some (.cells ⟨(ValLaw.qt w).map byV⟩ 5 (0, 0)))
    exact (FnOK.ttree (spQt_ok (qt_all w (List.mem_append_left _ hw))).cfg mixed Tryz.func31 someWV (loops_none _ _ _ _) e0 (need_mk (eqV_self _) (wr0_mk (s := ValLaw.qt w) hne hlt ⟨rfl, rfl, rfl⟩))).mono fun v g h => h
theorem wk4 {α : Type} {g : α → Value} {f : α → List UInt8} (hg : ∀ x, g x = e6 (g x)) (xs : List α) (hl5 : xs.length ≤ 5000) (hB : ∀ x ∈ xs, WvB (g x) ((f x).map byV)) : Wr (vV 4 false 0 ⟨#[]⟩ (xs.map g) []) (91 :: (ValLaw.lst f xs ++ [93])) := by
  have hz : ((Array.mk (xs.map g)).size : Int) = (xs.length : Int) := by simp
  have ln : ((91 :: (ValLaw.lst f xs ++ [93])) : List UInt8).length = (ValLaw.lst f xs).length + 2 := by rw [List.length_cons, List.length_append]; rfl
  refine ⟨rfl, fun hne hlt => ⟨fun cs n hl hcs hn => ?_, ?_⟩⟩
  · rw [ln] at hn
    have hA : LSpec 1 Tryz.prog 111 (oneLoop (codeOf Tryz.f31) 25) (hookLS 1 111 [0, 90, 91, 92] [1] [0] (fun vals h K => (vals = [p0V, fz ⟨xs.map g⟩, .int .i64 ((Array.mk (xs.map g)).size : Int), .int .i64 0] ∧ h = wH (cs ++ [91].map byV) (n + 1)) ∧ K (.exit 3) [p0V] (wH ((cs ++ [91].map byV) ++ (ValLaw.lst f xs).map byV) ((n + 1) + (ValLaw.lst f xs).length)))) := by
      refine hookE_ok (sameX := [1]) mixed (by decide) ?_
      rintro vals h K ⟨⟨rfl, rfl⟩, hK⟩
      rw [hz]
      exact wl_all hg K xs hl5 (cs ++ [91].map byV) (n + 1) hB (by simp only [List.length_append, List.length_map, hl]; rfl) (by rw [List.all_append, hcs, by_p1]; rfl) (by omega) hK
    have e0 := wv_b4 (xs.map g) (fun vals h => (vals = [p0V, fz ⟨xs.map g⟩, .int .i64 ((Array.mk (xs.map g)).size : Int), .int .i64 0] ∧ h = wH (cs ++ [91].map byV) (n + 1))) ((cs ++ [91].map byV) ++ (ValLaw.lst f xs).map byV) ((n + 1) + (ValLaw.lst f xs).length) cs n (fun (v : Value) (o : Option (Value × Nat × Nat)) (o2 : Option Obj) => v = .tuple ⟨[]⟩ ∧ o = some (p0V, n + ((91 :: (ValLaw.lst f xs ++ [93]))).length, n + ((91 :: (ValLaw.lst f xs ++ [93]))).length) ∧ o2 = some (.cells ⟨cs ++ ((91 :: (ValLaw.lst f xs ++ [93]))).map byV⟩ 5 (0, 0)))
    refine (FnOK.ttree SP0_ok mixed Tryz.func31 someWV (loops_one oneWV25 hA) e0 ?_).mono fun v g h => h
    refine pick_f (decide_eq_false (by omega)) (wrS_mk (s := [91]) hl hcs (by decide) (by show n + 1 ≤ 200000; omega) ⟨nn_all (by rw [List.all_append, hcs, by_p1]; rfl), ⟨rfl, rfl⟩, wrS_mk (s := [93]) (by simp only [List.length_append, List.length_map, hl]; rfl) (by rw [List.all_append, List.all_append, hcs, by_p1, by_p1]; rfl) (by decide) (by show ((n + 1) + (ValLaw.lst f xs).length) + 1 ≤ 200000; omega) ⟨rfl, ?_, ?_⟩⟩)
    · have : ((n + 1) + (ValLaw.lst f xs).length) + 1 = n + ((91 :: (ValLaw.lst f xs ++ [93]))).length := by rw [ln]; omega
      show some (p0V, ((n + 1) + (ValLaw.lst f xs).length) + 1, ((n + 1) + (ValLaw.lst f xs).length) + 1) = _
      rw [this]
    · have : ((cs ++ [91].map byV) ++ (ValLaw.lst f xs).map byV) ++ [93].map byV = cs ++ ((91 :: (ValLaw.lst f xs ++ [93]))).map byV := by simp
      show some (Obj.cells ⟨((cs ++ [91].map byV) ++ (ValLaw.lst f xs).map byV) ++ [93].map byV⟩ 5 (0, 0)) = _
      rw [this]
  · rw [ln] at hlt
    have hA : LSpec 1 Tryz.prog 111 (oneLoop (codeOf Tryz.f31) 25) (hookLS 1 111 [0, 90, 91, 92] [1] [0] (fun vals h K => (vals = [p0V, fz ⟨xs.map g⟩, .int .i64 ((Array.mk (xs.map g)).size : Int), .int .i64 0] ∧ h = wH ([91].map byV) 1) ∧ K (.exit 3) [p0V] (wH (([91].map byV) ++ (ValLaw.lst f xs).map byV) (1 + (ValLaw.lst f xs).length)))) := by
      refine hookE_ok (sameX := [1]) mixed (by decide) ?_
      rintro vals h K ⟨⟨rfl, rfl⟩, hK⟩
      rw [hz]
      exact wl_all hg K xs hl5 ([91].map byV) 1 hB (by simp only [List.length_append, List.length_map]; rfl) (by exact by_p1 _) (by omega) hK
    have e0 := wv_n4 (xs.map g) (fun vals h => (vals = [p0V, fz ⟨xs.map g⟩, .int .i64 ((Array.mk (xs.map g)).size : Int), .int .i64 0] ∧ h = wH ([91].map byV) 1)) (([91].map byV) ++ (ValLaw.lst f xs).map byV) (1 + (ValLaw.lst f xs).length)  (fun (v : Value) (o : Option (Value × Nat × Nat)) (o2 : Option Obj) => v = .tuple ⟨[]⟩ ∧ o = some (p0V, ((91 :: (ValLaw.lst f xs ++ [93]))).length, ((91 :: (ValLaw.lst f xs ++ [93]))).length) ∧ o2 = some (.cells ⟨((91 :: (ValLaw.lst f xs ++ [93]))).map byV⟩ 5 (0, 0)))
    refine (FnOK.ttree SP0_ok mixed Tryz.func31 someWV (loops_one oneWV25 hA) e0 ?_).mono fun v g h => h
    refine wr0_mk (s := [91]) (by decide) (by show 1 ≤ 200000; omega) ⟨nn_all (by exact by_p1 _), ⟨rfl, rfl⟩, wrS_mk (s := [93]) (by simp only [List.length_append, List.length_map]; rfl) (by rw [List.all_append, by_p1, by_p1]; rfl) (by decide) (by show (1 + (ValLaw.lst f xs).length) + 1 ≤ 200000; omega) ⟨rfl, ?_, ?_⟩⟩
    · have : (1 + (ValLaw.lst f xs).length) + 1 = ((91 :: (ValLaw.lst f xs ++ [93]))).length := by rw [ln]; omega
      show some (p0V, (1 + (ValLaw.lst f xs).length) + 1, (1 + (ValLaw.lst f xs).length) + 1) = _
      rw [this]
    · have : (([91].map byV) ++ (ValLaw.lst f xs).map byV) ++ [93].map byV = ((91 :: (ValLaw.lst f xs ++ [93]))).map byV := by simp
      show some (Obj.cells ⟨(([91].map byV) ++ (ValLaw.lst f xs).map byV) ++ [93].map byV⟩ 5 (0, 0)) = _
      rw [this]
theorem wk5 {α : Type} {g : α → Value} {f : α → List UInt8} (hg : ∀ x, g x = e7 (g x)) (xs : List α) (hl5 : xs.length ≤ 5000) (hB : ∀ x ∈ xs, (∃ (w u : List UInt8), f x = ValLaw.qt w ++ 58 :: u ∧ FnOK 0 Tryz.prog 53 ⟨[.string (bl w)]⟩ h0 (fun v _ => v = .string (bl (ValLaw.qt w))) ∧ WvB (m6 (g x)) (u.map byV) ∧ g x = mbr w (m6 (g x)))) : Wr (vV 5 false 0 ⟨#[]⟩ [] (xs.map g)) (123 :: (ValLaw.lst f xs ++ [125])) := by
  have hz : ((Array.mk (xs.map g)).size : Int) = (xs.length : Int) := by simp
  have ln : ((123 :: (ValLaw.lst f xs ++ [125])) : List UInt8).length = (ValLaw.lst f xs).length + 2 := by rw [List.length_cons, List.length_append]; rfl
  refine ⟨rfl, fun hne hlt => ⟨fun cs n hl hcs hn => ?_, ?_⟩⟩
  · rw [ln] at hn
    have hA : LSpec 1 Tryz.prog 111 (oneLoop (codeOf Tryz.f31) 5) (hookLS 1 111 [0, 17, 18, 19] [1] [0] (fun vals h K => (vals = [p0V, fz ⟨xs.map g⟩, .int .i64 ((Array.mk (xs.map g)).size : Int), .int .i64 0] ∧ h = wH (cs ++ [123].map byV) (n + 1)) ∧ K (.exit 1) [p0V] (wH ((cs ++ [123].map byV) ++ (ValLaw.lst f xs).map byV) ((n + 1) + (ValLaw.lst f xs).length)))) := by
      refine hookE_ok (sameX := [1]) mixed (by decide) ?_
      rintro vals h K ⟨⟨rfl, rfl⟩, hK⟩
      rw [hz]
      exact wm_all hg K xs hl5 (cs ++ [123].map byV) (n + 1) hB (by simp only [List.length_append, List.length_map, hl]; rfl) (by rw [List.all_append, hcs, by_p1]; rfl) (by omega) hK
    have e0 := wv_b5 (xs.map g) (fun vals h => (vals = [p0V, fz ⟨xs.map g⟩, .int .i64 ((Array.mk (xs.map g)).size : Int), .int .i64 0] ∧ h = wH (cs ++ [123].map byV) (n + 1))) ((cs ++ [123].map byV) ++ (ValLaw.lst f xs).map byV) ((n + 1) + (ValLaw.lst f xs).length) cs n (fun (v : Value) (o : Option (Value × Nat × Nat)) (o2 : Option Obj) => v = .tuple ⟨[]⟩ ∧ o = some (p0V, n + ((123 :: (ValLaw.lst f xs ++ [125]))).length, n + ((123 :: (ValLaw.lst f xs ++ [125]))).length) ∧ o2 = some (.cells ⟨cs ++ ((123 :: (ValLaw.lst f xs ++ [125]))).map byV⟩ 5 (0, 0)))
    refine (FnOK.ttree SP0_ok mixed Tryz.func31 someWV (loops_one oneWV5 hA) e0 ?_).mono fun v g h => h
    refine pick_f (decide_eq_false (by omega)) (wrS_mk (s := [123]) hl hcs (by decide) (by show n + 1 ≤ 200000; omega) ⟨nn_all (by rw [List.all_append, hcs, by_p1]; rfl), ⟨rfl, rfl⟩, wrS_mk (s := [125]) (by simp only [List.length_append, List.length_map, hl]; rfl) (by rw [List.all_append, List.all_append, hcs, by_p1, by_p1]; rfl) (by decide) (by show ((n + 1) + (ValLaw.lst f xs).length) + 1 ≤ 200000; omega) ⟨rfl, ?_, ?_⟩⟩)
    · have : ((n + 1) + (ValLaw.lst f xs).length) + 1 = n + ((123 :: (ValLaw.lst f xs ++ [125]))).length := by rw [ln]; omega
      show some (p0V, ((n + 1) + (ValLaw.lst f xs).length) + 1, ((n + 1) + (ValLaw.lst f xs).length) + 1) = _
      rw [this]
    · have : ((cs ++ [123].map byV) ++ (ValLaw.lst f xs).map byV) ++ [125].map byV = cs ++ ((123 :: (ValLaw.lst f xs ++ [125]))).map byV := by simp
      show some (Obj.cells ⟨((cs ++ [123].map byV) ++ (ValLaw.lst f xs).map byV) ++ [125].map byV⟩ 5 (0, 0)) = _
      rw [this]
  · rw [ln] at hlt
    have hA : LSpec 1 Tryz.prog 111 (oneLoop (codeOf Tryz.f31) 5) (hookLS 1 111 [0, 17, 18, 19] [1] [0] (fun vals h K => (vals = [p0V, fz ⟨xs.map g⟩, .int .i64 ((Array.mk (xs.map g)).size : Int), .int .i64 0] ∧ h = wH ([123].map byV) 1) ∧ K (.exit 1) [p0V] (wH (([123].map byV) ++ (ValLaw.lst f xs).map byV) (1 + (ValLaw.lst f xs).length)))) := by
      refine hookE_ok (sameX := [1]) mixed (by decide) ?_
      rintro vals h K ⟨⟨rfl, rfl⟩, hK⟩
      rw [hz]
      exact wm_all hg K xs hl5 ([123].map byV) 1 hB (by simp only [List.length_append, List.length_map]; rfl) (by exact by_p1 _) (by omega) hK
    have e0 := wv_n5 (xs.map g) (fun vals h => (vals = [p0V, fz ⟨xs.map g⟩, .int .i64 ((Array.mk (xs.map g)).size : Int), .int .i64 0] ∧ h = wH ([123].map byV) 1)) (([123].map byV) ++ (ValLaw.lst f xs).map byV) (1 + (ValLaw.lst f xs).length)  (fun (v : Value) (o : Option (Value × Nat × Nat)) (o2 : Option Obj) => v = .tuple ⟨[]⟩ ∧ o = some (p0V, ((123 :: (ValLaw.lst f xs ++ [125]))).length, ((123 :: (ValLaw.lst f xs ++ [125]))).length) ∧ o2 = some (.cells ⟨((123 :: (ValLaw.lst f xs ++ [125]))).map byV⟩ 5 (0, 0)))
    refine (FnOK.ttree SP0_ok mixed Tryz.func31 someWV (loops_one oneWV5 hA) e0 ?_).mono fun v g h => h
    refine wr0_mk (s := [123]) (by decide) (by show 1 ≤ 200000; omega) ⟨nn_all (by exact by_p1 _), ⟨rfl, rfl⟩, wrS_mk (s := [125]) (by simp only [List.length_append, List.length_map]; rfl) (by rw [List.all_append, by_p1, by_p1]; rfl) (by decide) (by show (1 + (ValLaw.lst f xs).length) + 1 ≤ 200000; omega) ⟨rfl, ?_, ?_⟩⟩
    · have : (1 + (ValLaw.lst f xs).length) + 1 = ((123 :: (ValLaw.lst f xs ++ [125]))).length := by rw [ln]; omega
      show some (p0V, (1 + (ValLaw.lst f xs).length) + 1, (1 + (ValLaw.lst f xs).length) + 1) = _
      rw [this]
    · have : (([123].map byV) ++ (ValLaw.lst f xs).map byV) ++ [125].map byV = ((123 :: (ValLaw.lst f xs ++ [125]))).map byV := by simp
      show some (Obj.cells ⟨(([123].map byV) ++ (ValLaw.lst f xs).map byV) ++ [125].map byV⟩ 5 (0, 0)) = _
      rw [this]
end Go.Proofs.YtljfobpjblnagaaGreatDoor
