/-
  Values: compare is their order.
-/
import Derived.Test.YtljfobpjblnagaaGreatDoorVaT
import Derived.Test.YtljfobpjblnagaaGreatDoorVaI
namespace Go.Proofs.YtljfobpjblnagaaGreatDoor
open Go.Ev Go.RowKit

def lp {α : Type} (C : α → α → Int) : List α → List α → Option Int
  | [], _ => none
  | _ :: _, [] => some 1
  | x :: xs, y :: ys => if C x y = 0 then lp C xs ys else some (C x y)
theorem lp_cmpL {α : Type} (C : α → α → Int) : ∀ xs ys : List α, ValLaw.cmpL C xs ys = match lp C xs ys with
    | some r => r
    | none => if xs.length < ys.length then -1 else 0
  | [], [] => rfl
  | [], _ :: _ => rfl
  | _ :: _, [] => rfl
  | x :: xs, y :: ys => by
    show ValLaw.orE (C x y) (ValLaw.cmpL C xs ys) = _
    unfold ValLaw.orE lp
    by_cases h : C x y = 0
    · rw [if_pos h, if_pos h, lp_cmpL C xs ys]
      cases lp C xs ys with
      | some r => rfl
      | none => simp
    · rw [if_neg h, if_neg h]
def Cp (x y : Value) (c : Int) : Prop := FnOK 0 Tryz.prog 15 ⟨[x, y]⟩ h0 (fun v _ => v = .int .i64 c) ∧ p2 x = true ∧ p2 y = true
theorem spCp_ok {ok : Bool} {x y : Value} {c : Int} (hF : ok = true → Cp x y c) : SpOK (spCp ok x y c) := by
  intro f args h v h' hs
  unfold spCp at hs
  obtain ⟨hf, hs2⟩ := cond_some hs
  clear hs
  have := Nat.eq_of_beq_eq_true hf
  subst this
  split at hs2
  · injection hs2 with hs
    injection hs with hb hs
    injection hs with hv hh
    subst hv hh
    simp only [Bool.and_eq_true] at hb
    obtain ⟨⟨b0, b1⟩, b2⟩ := hb
    have b1 := eqV_eq b1
    have b2 := eqV_eq b2
    subst b1 b2
    obtain ⟨q1, q2, q3⟩ := hF b0
    exact ⟨FnOK.pure q1 (by show (p2 _ && (p2 _ && true)) = true; rw [q2, q3]; rfl) rfl h, Nat.le_refl _⟩
  · cases hs2
def C1p (x y : Value) (c : Int) : Prop := FnOK 0 Tryz.prog 28 ⟨[x, y]⟩ h0 (fun v _ => v = .int .i64 c) ∧ p2 x = true ∧ p2 y = true
theorem spC1_ok {ok : Bool} {x y : Value} {c : Int} (hF : ok = true → C1p x y c) : SpOK (spC1 ok x y c) := by
  intro f args h v h' hs
  unfold spC1 at hs
  obtain ⟨hf, hs2⟩ := cond_some hs
  clear hs
  have := Nat.eq_of_beq_eq_true hf
  subst this
  split at hs2
  · injection hs2 with hs
    injection hs with hb hs
    injection hs with hv hh
    subst hv hh
    simp only [Bool.and_eq_true] at hb
    obtain ⟨⟨b0, b1⟩, b2⟩ := hb
    have b1 := eqV_eq b1
    have b2 := eqV_eq b2
    subst b1 b2
    obtain ⟨q1, q2, q3⟩ := hF b0
    exact ⟨FnOK.pure q1 (by show (p2 _ && (p2 _ && true)) = true; rw [q2, q3]; rfl) rfl h, Nat.le_refl _⟩
  · cases hs2
theorem spC2_ok {g : Nat} {xs ys : Array Value} {c : Int} (hF : FnOK 0 Tryz.prog 26 ⟨[fz xs, fz ys, .func (.func g) ⟨[]⟩ ⟨[]⟩]⟩ h0 (fun v _ => v = .int .i64 c)) : SpOK (spC2 g (fz xs) (fz ys) c) := by
  intro f args h v h' hs
  unfold spC2 at hs
  obtain ⟨hf, hs2⟩ := cond_some hs
  clear hs
  have := Nat.eq_of_beq_eq_true hf
  subst this
  split at hs2
  · injection hs2 with hs
    injection hs with hb hs
    injection hs with hv hh
    subst hv hh
    simp only [Bool.and_eq_true] at hb
    obtain ⟨⟨b1, b2⟩, b3⟩ := hb
    have b1 := eqV_eq b1
    have b2 := eqV_eq b2
    have b3 := Nat.eq_of_beq_eq_true b3
    subst b1 b2 b3
    exact ⟨FnOK.pure hF rfl rfl h, Nat.le_refl _⟩
  · cases hs2
theorem spC3_ok {g : Nat} {xs ys : Array Value} {c : Int} (hF : FnOK 0 Tryz.prog 27 ⟨[fz xs, fz ys, .func (.func g) ⟨[]⟩ ⟨[]⟩]⟩ h0 (fun v _ => v = .int .i64 c)) : SpOK (spC3 g (fz xs) (fz ys) c) := by
  intro f args h v h' hs
  unfold spC3 at hs
  obtain ⟨hf, hs2⟩ := cond_some hs
  clear hs
  have := Nat.eq_of_beq_eq_true hf
  subst this
  split at hs2
  · injection hs2 with hs
    injection hs with hb hs
    injection hs with hv hh
    subst hv hh
    simp only [Bool.and_eq_true] at hb
    obtain ⟨⟨b1, b2⟩, b3⟩ := hb
    have b1 := eqV_eq b1
    have b2 := eqV_eq b2
    have b3 := Nat.eq_of_beq_eq_true b3
    subst b1 b2 b3
    exact ⟨FnOK.pure hF rfl rfl h, Nat.le_refl _⟩
  · cases hs2
theorem cf_loop {α : Type} {g : α → Value} (hg : ∀ x, g x = e6 (g x)) {C : α → α → Int} (K : AExit → List Value → AH → Prop) (xs ys : List α) (hl : xs.length ≤ 5000) : ∀ (zs ws : List α) (i : Nat), xs.drop i = zs → ys.drop i = ws → i + zs.length = xs.length → (∀ x ∈ zs, ∀ y ∈ ws, Cp (g x) (g y) (C x y)) →
    (match lp C zs ws with
      | some r => K .ret [fz ⟨xs.map g⟩, fz ⟨ys.map g⟩, .int .i64 r] h0
      | none => K (.exit 0) [fz ⟨xs.map g⟩, fz ⟨ys.map g⟩, anyV] h0) →
    iterE 0 Tryz.prog 39 [0, 1, 2, 11, 12, 13] [] [0, 1, 6] [] (oneLoop (codeOf Tryz.f26) 2) (zs.length + 1) [fz ⟨xs.map g⟩, fz ⟨ys.map g⟩, .func (.func 15) ⟨[]⟩ ⟨[]⟩, fz ⟨xs.map g⟩, .int .i64 (xs.length : Int), .int .i64 (i : Int)] h0 K
  | [], ws, i, _, _, h3, _, hK => ⟨SCf false undef undef 0, [], noHooks, 600, (spCp_ok (ok := false) (fun h => Bool.noConfusion h)).cfg, loops_none _ _ _ _, (cf_rd false undef undef 0 _ _ (xs.map g) (ys.map g) _ K).mpr (pick_f (decide_eq_false (by simp at h3; omega)) hK)⟩
  | x :: zs, [], i, h1, h2, h3, _, hK => by
    have h3 : i + (zs.length + 1) = xs.length := h3
    have hy : ys.length ≤ i := by
      rcases Nat.lt_or_ge i ys.length with q | q
      · rw [List.drop_eq_getElem_cons q] at h2; cases h2
      · exact q
    have ex : elV (xs.map g) (i : Int) = g x := elV_at (l := zs.map g) (by rw [← List.map_drop, h1]; rfl)
    refine ⟨SCf false undef undef 0, [], noHooks, 600, (spCp_ok (ok := false) (fun h => Bool.noConfusion h)).cfg, loops_none _ _ _ _, (cf_rd false undef undef 0 _ _ (xs.map g) (ys.map g) _ K).mpr ?_⟩
    refine pick_t (decide_eq_true (by omega)) (need_mk ?_ ⟨by rw [ex]; exact hg x, pick_t (decide_eq_true (by simp; omega)) hK⟩)
    simp only [Bool.and_eq_true, decide_eq_true_eq]
    exact ⟨⟨by omega, by simp; omega⟩, rfl⟩
  | x :: zs, y :: ws, i, h1, h2, h3, h4, hK => by
    have h3 : i + (zs.length + 1) = xs.length := h3
    have hy : i < ys.length := by
      rcases Nat.lt_or_ge i ys.length with q | q
      · exact q
      · rw [List.drop_eq_nil_of_le q] at h2; cases h2
    have ex : elV (xs.map g) (i : Int) = g x := elV_at (l := zs.map g) (by rw [← List.map_drop, h1]; rfl)
    have ey : elV (ys.map g) (i : Int) = g y := elV_at (l := ws.map g) (by rw [← List.map_drop, h2]; rfl)
    refine ⟨SCf true (g x) (g y) (C x y), [], noHooks, 600, (spCp_ok fun _ => h4 x (by simp) y (by simp)).cfg, loops_none _ _ _ _, (cf_rd true (g x) (g y) (C x y) _ _ (xs.map g) (ys.map g) _ K).mpr ?_⟩
    have b1 : (decide (0 ≤ (i : Int)) && decide ((i : Int) < ((Array.mk (xs.map g)).size : Int)) && Nat.beq (e6 (elV (xs.map g) (i : Int))).cells.size 6) = true := by
      simp only [Bool.and_eq_true, decide_eq_true_eq]
      exact ⟨⟨by omega, by simp; omega⟩, rfl⟩
    have b2 : (decide (0 ≤ (i : Int)) && decide ((i : Int) < ((Array.mk (ys.map g)).size : Int)) && Nat.beq (e6 (elV (ys.map g) (i : Int))).cells.size 6) = true := by
      simp only [Bool.and_eq_true, decide_eq_true_eq]
      exact ⟨⟨by omega, by simp; omega⟩, rfl⟩
    refine pick_t (decide_eq_true (by omega)) (need_mk b1 ⟨by rw [ex]; exact hg x, pick_f (decide_eq_false (by simp; omega)) (need_mk b2 ⟨by rw [ey]; exact hg y, need_mk (by rw [ex, ey, ← hg x, ← hg y, eqV_self, eqV_self]; rfl) ?_⟩)⟩)
    unfold lp at hK
    by_cases hc : C x y = 0
    · rw [if_pos hc] at hK
      refine pick_f (by rw [hc]; rfl) ?_
      rw [wrapS (by omega)]
      exact cf_loop hg K xs ys hl zs ws (i + 1) (by rw [← List.drop_drop, h1]; rfl) (by rw [← List.drop_drop, h2]; rfl) (by omega) (fun a ha b hb => h4 a (by simp [ha]) b (by simp [hb])) hK
    · rw [if_neg hc] at hK
      exact pick_t (bne_iff_ne.2 hc) hK
theorem somecf : Tryz.f26.body.isSome = true := by kernel_rfl
theorem onecf : (loopAt (codeOf Tryz.f26) 2).length = 1 := by kernel_rfl
theorem cf_fn {α : Type} {g : α → Value} (hg : ∀ x, g x = e6 (g x)) {C : α → α → Int} {xs ys : List α} (hl : xs.length ≤ 5000) (h4 : ∀ x ∈ xs, ∀ y ∈ ys, Cp (g x) (g y) (C x y)) :
    FnOK 0 Tryz.prog 26 ⟨[fz ⟨xs.map g⟩, fz ⟨ys.map g⟩, .func (.func 15) ⟨[]⟩ ⟨[]⟩]⟩ h0 (fun v _ => v = .int .i64 (ValLaw.cmpL C xs ys)) := by
  rw [lp_cmpL]
  have hz : ((Array.mk (xs.map g)).size : Int) = (xs.length : Int) := by simp
  have hz2 : ((Array.mk (ys.map g)).size : Int) = (ys.length : Int) := by simp
  cases hp : lp C xs ys with
  | some r =>
    have hA : LSpec 0 Tryz.prog 39 (oneLoop (codeOf Tryz.f26) 2) (hookLS 0 39 [0, 1, 2, 11, 12, 13] [] [0, 1, 6] (fun vals h K => (vals = [fz ⟨xs.map g⟩, fz ⟨ys.map g⟩, .func (.func 15) ⟨[]⟩ ⟨[]⟩, fz ⟨xs.map g⟩, .int .i64 ((Array.mk (xs.map g)).size : Int), .int .i64 0] ∧ h = h0) ∧ K .ret [fz ⟨xs.map g⟩, fz ⟨ys.map g⟩, .int .i64 r] h0)) := by
      refine hookE_ok (sameX := []) mixed (by decide) ?_
      rintro vals h K ⟨⟨rfl, rfl⟩, hK⟩
      rw [hz]
      exact ⟨_, cf_loop hg K xs ys hl xs ys 0 rfl rfl (by omega) h4 (by rw [hp]; exact hK)⟩
    have e0 := cf_r (xs.map g) (ys.map g) r (fun vals h => vals = [fz ⟨xs.map g⟩, fz ⟨ys.map g⟩, .func (.func 15) ⟨[]⟩ ⟨[]⟩, fz ⟨xs.map g⟩, .int .i64 ((Array.mk (xs.map g)).size : Int), .int .i64 0] ∧ h = h0) (fun v => v = .int .i64 r)
    exact FnOK.ttree SP0_ok mixed Tryz.func26 somecf (loops_one onecf hA) e0 ⟨⟨rfl, rfl⟩, rfl⟩
  | none =>
    have hA : LSpec 0 Tryz.prog 39 (oneLoop (codeOf Tryz.f26) 2) (hookLS 0 39 [0, 1, 2, 11, 12, 13] [] [0, 1, 6] (fun vals h K => (vals = [fz ⟨xs.map g⟩, fz ⟨ys.map g⟩, .func (.func 15) ⟨[]⟩ ⟨[]⟩, fz ⟨xs.map g⟩, .int .i64 ((Array.mk (xs.map g)).size : Int), .int .i64 0] ∧ h = h0) ∧ K (.exit 0) [fz ⟨xs.map g⟩, fz ⟨ys.map g⟩, anyV] h0)) := by
      refine hookE_ok (sameX := []) mixed (by decide) ?_
      rintro vals h K ⟨⟨rfl, rfl⟩, hK⟩
      rw [hz]
      exact ⟨_, cf_loop hg K xs ys hl xs ys 0 rfl rfl (by omega) h4 (by rw [hp]; exact hK)⟩
    have e0 := cf_x (xs.map g) (ys.map g) (fun vals h => vals = [fz ⟨xs.map g⟩, fz ⟨ys.map g⟩, .func (.func 15) ⟨[]⟩ ⟨[]⟩, fz ⟨xs.map g⟩, .int .i64 ((Array.mk (xs.map g)).size : Int), .int .i64 0] ∧ h = h0) (fun v => v = .int .i64 (if xs.length < ys.length then -1 else 0))
    refine FnOK.ttree SP0_ok mixed Tryz.func26 somecf (loops_one onecf hA) e0 ⟨⟨rfl, rfl⟩, ?_⟩
    by_cases q : xs.length < ys.length
    · exact pick_t (decide_eq_true (by rw [hz, hz2]; omega)) (by rw [if_pos q])
    · exact pick_f (decide_eq_false (by rw [hz, hz2]; omega)) (by rw [if_neg q])
theorem cg_loop {α : Type} {g : α → Value} (hg : ∀ x, g x = e7 (g x)) {C : α → α → Int} (K : AExit → List Value → AH → Prop) (xs ys : List α) (hl : xs.length ≤ 5000) : ∀ (zs ws : List α) (i : Nat), xs.drop i = zs → ys.drop i = ws → i + zs.length = xs.length → (∀ x ∈ zs, ∀ y ∈ ws, C1p (g x) (g y) (C x y)) →
    (match lp C zs ws with
      | some r => K .ret [fz ⟨xs.map g⟩, fz ⟨ys.map g⟩, .int .i64 r] h0
      | none => K (.exit 0) [fz ⟨xs.map g⟩, fz ⟨ys.map g⟩, anyV] h0) →
    iterE 0 Tryz.prog 39 [0, 1, 2, 11, 12, 13] [] [0, 1, 6] [] (oneLoop (codeOf Tryz.f27) 2) (zs.length + 1) [fz ⟨xs.map g⟩, fz ⟨ys.map g⟩, .func (.func 28) ⟨[]⟩ ⟨[]⟩, fz ⟨xs.map g⟩, .int .i64 (xs.length : Int), .int .i64 (i : Int)] h0 K
  | [], ws, i, _, _, h3, _, hK => ⟨SCg false undef undef 0, [], noHooks, 600, (spC1_ok (ok := false) (fun h => Bool.noConfusion h)).cfg, loops_none _ _ _ _, (cg_rd false undef undef 0 _ _ (xs.map g) (ys.map g) _ K).mpr (pick_f (decide_eq_false (by simp at h3; omega)) hK)⟩
  | x :: zs, [], i, h1, h2, h3, _, hK => by
    have h3 : i + (zs.length + 1) = xs.length := h3
    have hy : ys.length ≤ i := by
      rcases Nat.lt_or_ge i ys.length with q | q
      · rw [List.drop_eq_getElem_cons q] at h2; cases h2
      · exact q
    have ex : elV (xs.map g) (i : Int) = g x := elV_at (l := zs.map g) (by rw [← List.map_drop, h1]; rfl)
    refine ⟨SCg false undef undef 0, [], noHooks, 600, (spC1_ok (ok := false) (fun h => Bool.noConfusion h)).cfg, loops_none _ _ _ _, (cg_rd false undef undef 0 _ _ (xs.map g) (ys.map g) _ K).mpr ?_⟩
    refine pick_t (decide_eq_true (by omega)) (need_mk ?_ ⟨by rw [ex]; exact hg x, pick_t (decide_eq_true (by simp; omega)) hK⟩)
    simp only [Bool.and_eq_true, decide_eq_true_eq]
    exact ⟨⟨by omega, by simp; omega⟩, rfl⟩
  | x :: zs, y :: ws, i, h1, h2, h3, h4, hK => by
    have h3 : i + (zs.length + 1) = xs.length := h3
    have hy : i < ys.length := by
      rcases Nat.lt_or_ge i ys.length with q | q
      · exact q
      · rw [List.drop_eq_nil_of_le q] at h2; cases h2
    have ex : elV (xs.map g) (i : Int) = g x := elV_at (l := zs.map g) (by rw [← List.map_drop, h1]; rfl)
    have ey : elV (ys.map g) (i : Int) = g y := elV_at (l := ws.map g) (by rw [← List.map_drop, h2]; rfl)
    refine ⟨SCg true (g x) (g y) (C x y), [], noHooks, 600, (spC1_ok fun _ => h4 x (by simp) y (by simp)).cfg, loops_none _ _ _ _, (cg_rd true (g x) (g y) (C x y) _ _ (xs.map g) (ys.map g) _ K).mpr ?_⟩
    have b1 : (decide (0 ≤ (i : Int)) && decide ((i : Int) < ((Array.mk (xs.map g)).size : Int)) && Nat.beq (e7 (elV (xs.map g) (i : Int))).cells.size 7) = true := by
      simp only [Bool.and_eq_true, decide_eq_true_eq]
      exact ⟨⟨by omega, by simp; omega⟩, rfl⟩
    have b2 : (decide (0 ≤ (i : Int)) && decide ((i : Int) < ((Array.mk (ys.map g)).size : Int)) && Nat.beq (e7 (elV (ys.map g) (i : Int))).cells.size 7) = true := by
      simp only [Bool.and_eq_true, decide_eq_true_eq]
      exact ⟨⟨by omega, by simp; omega⟩, rfl⟩
    refine pick_t (decide_eq_true (by omega)) (need_mk b1 ⟨by rw [ex]; exact hg x, pick_f (decide_eq_false (by simp; omega)) (need_mk b2 ⟨by rw [ey]; exact hg y, need_mk (by rw [ex, ey, ← hg x, ← hg y, eqV_self, eqV_self]; rfl) ?_⟩)⟩)
    unfold lp at hK
    by_cases hc : C x y = 0
    · rw [if_pos hc] at hK
      refine pick_f (by rw [hc]; rfl) ?_
      rw [wrapS (by omega)]
      exact cg_loop hg K xs ys hl zs ws (i + 1) (by rw [← List.drop_drop, h1]; rfl) (by rw [← List.drop_drop, h2]; rfl) (by omega) (fun a ha b hb => h4 a (by simp [ha]) b (by simp [hb])) hK
    · rw [if_neg hc] at hK
      exact pick_t (bne_iff_ne.2 hc) hK
theorem somecg : Tryz.f27.body.isSome = true := by kernel_rfl
theorem onecg : (loopAt (codeOf Tryz.f27) 2).length = 1 := by kernel_rfl
theorem cg_fn {α : Type} {g : α → Value} (hg : ∀ x, g x = e7 (g x)) {C : α → α → Int} {xs ys : List α} (hl : xs.length ≤ 5000) (h4 : ∀ x ∈ xs, ∀ y ∈ ys, C1p (g x) (g y) (C x y)) :
    FnOK 0 Tryz.prog 27 ⟨[fz ⟨xs.map g⟩, fz ⟨ys.map g⟩, .func (.func 28) ⟨[]⟩ ⟨[]⟩]⟩ h0 (fun v _ => v = .int .i64 (ValLaw.cmpL C xs ys)) := by
  rw [lp_cmpL]
  have hz : ((Array.mk (xs.map g)).size : Int) = (xs.length : Int) := by simp
  have hz2 : ((Array.mk (ys.map g)).size : Int) = (ys.length : Int) := by simp
  cases hp : lp C xs ys with
  | some r =>
    have hA : LSpec 0 Tryz.prog 39 (oneLoop (codeOf Tryz.f27) 2) (hookLS 0 39 [0, 1, 2, 11, 12, 13] [] [0, 1, 6] (fun vals h K => (vals = [fz ⟨xs.map g⟩, fz ⟨ys.map g⟩, .func (.func 28) ⟨[]⟩ ⟨[]⟩, fz ⟨xs.map g⟩, .int .i64 ((Array.mk (xs.map g)).size : Int), .int .i64 0] ∧ h = h0) ∧ K .ret [fz ⟨xs.map g⟩, fz ⟨ys.map g⟩, .int .i64 r] h0)) := by
      refine hookE_ok (sameX := []) mixed (by decide) ?_
      rintro vals h K ⟨⟨rfl, rfl⟩, hK⟩
      rw [hz]
      exact ⟨_, cg_loop hg K xs ys hl xs ys 0 rfl rfl (by omega) h4 (by rw [hp]; exact hK)⟩
    have e0 := cg_r (xs.map g) (ys.map g) r (fun vals h => vals = [fz ⟨xs.map g⟩, fz ⟨ys.map g⟩, .func (.func 28) ⟨[]⟩ ⟨[]⟩, fz ⟨xs.map g⟩, .int .i64 ((Array.mk (xs.map g)).size : Int), .int .i64 0] ∧ h = h0) (fun v => v = .int .i64 r)
    exact FnOK.ttree SP0_ok mixed Tryz.func27 somecg (loops_one onecg hA) e0 ⟨⟨rfl, rfl⟩, rfl⟩
  | none =>
    have hA : LSpec 0 Tryz.prog 39 (oneLoop (codeOf Tryz.f27) 2) (hookLS 0 39 [0, 1, 2, 11, 12, 13] [] [0, 1, 6] (fun vals h K => (vals = [fz ⟨xs.map g⟩, fz ⟨ys.map g⟩, .func (.func 28) ⟨[]⟩ ⟨[]⟩, fz ⟨xs.map g⟩, .int .i64 ((Array.mk (xs.map g)).size : Int), .int .i64 0] ∧ h = h0) ∧ K (.exit 0) [fz ⟨xs.map g⟩, fz ⟨ys.map g⟩, anyV] h0)) := by
      refine hookE_ok (sameX := []) mixed (by decide) ?_
      rintro vals h K ⟨⟨rfl, rfl⟩, hK⟩
      rw [hz]
      exact ⟨_, cg_loop hg K xs ys hl xs ys 0 rfl rfl (by omega) h4 (by rw [hp]; exact hK)⟩
    have e0 := cg_x (xs.map g) (ys.map g) (fun vals h => vals = [fz ⟨xs.map g⟩, fz ⟨ys.map g⟩, .func (.func 28) ⟨[]⟩ ⟨[]⟩, fz ⟨xs.map g⟩, .int .i64 ((Array.mk (xs.map g)).size : Int), .int .i64 0] ∧ h = h0) (fun v => v = .int .i64 (if xs.length < ys.length then -1 else 0))
    refine FnOK.ttree SP0_ok mixed Tryz.func27 somecg (loops_one onecg hA) e0 ⟨⟨rfl, rfl⟩, ?_⟩
    by_cases q : xs.length < ys.length
    · exact pick_t (decide_eq_true (by rw [hz, hz2]; omega)) (by rw [if_pos q])
    · exact pick_f (decide_eq_false (by rw [hz, hz2]; omega)) (by rw [if_neg q])

theorem someCP : Tryz.f15.body.isSome = true := by kernel_rfl
theorem someC1 : Tryz.f28.body.isSome = true := by kernel_rfl
theorem words_cmp : ∀ a ∈ ValLaw.wordsU, ∀ b ∈ ValLaw.wordsU, Go.Extern.BytealgCompare.cmp (bl a) (bl b) = ValLaw.cmpW a b := by decide +kernel
theorem names_cmp : ∀ a ∈ ValLaw.namesU, ∀ b ∈ ValLaw.namesU, Go.Extern.BytealgCompare.cmp (bl a) (bl b) = ValLaw.cmpW a b := by decide +kernel
theorem flag_wrap (f f2 : Bool) : IntKind.i64.wrap (ValLaw.flagN f - ValLaw.flagN f2) = ValLaw.cmpF f f2 := by cases f <;> cases f2 <;> rfl
theorem cpT_mk {k k2 : Int} {f f2 : Bool} {n n2 : Int} {s s2 : ByteArray} {G : Prop} {r : Int} (hG : ValLaw.cmpI k k2 = 0 → IntKind.i64.wrap (ValLaw.flagN f - ValLaw.flagN f2) = 0 → ValLaw.cmpI n n2 = 0 → Go.Extern.BytealgCompare.cmp s s2 = 0 → G) (R : Int)
    (hR : R = ValLaw.orE (ValLaw.cmpI k k2) (ValLaw.orE (IntKind.i64.wrap (ValLaw.flagN f - ValLaw.flagN f2)) (ValLaw.orE (ValLaw.cmpI n n2) (ValLaw.orE (Go.Extern.BytealgCompare.cmp s s2) r)))) : cpT k k2 f f2 n n2 s s2 (fun v => v = .int .i64 R) G := by
  unfold cpT
  unfold ValLaw.orE at hR
  by_cases h1 : ValLaw.cmpI k k2 = 0
  · rw [if_pos h1] at hR
    refine pick_f (by rw [h1]; rfl) ?_
    by_cases h2 : IntKind.i64.wrap (ValLaw.flagN f - ValLaw.flagN f2) = 0
    · rw [if_pos h2] at hR
      refine pick_f (by rw [h2]; rfl) ?_
      by_cases h3 : ValLaw.cmpI n n2 = 0
      · rw [if_pos h3] at hR
        refine pick_f (by rw [h3]; rfl) ?_
        by_cases h4 : Go.Extern.BytealgCompare.cmp s s2 = 0
        · exact pick_f (by rw [h4]; rfl) (hG h1 h2 h3 h4)
        · rw [if_neg h4] at hR
          exact pick_t (bne_iff_ne.2 h4) (pick_t (bne_iff_ne.2 h4) (by rw [hR]))
      · rw [if_neg h3] at hR
        exact pick_t (bne_iff_ne.2 h3) (pick_t (bne_iff_ne.2 h3) (by rw [hR]))
    · rw [if_neg h2] at hR
      exact pick_t (bne_iff_ne.2 h2) (pick_t (bne_iff_ne.2 h2) (by rw [hR]))
  · rw [if_neg h1] at hR
    exact pick_t (bne_iff_ne.2 h1) (pick_t (bne_iff_ne.2 h1) (by rw [hR]))
theorem orE_assoc (a b c : Int) : ValLaw.orE (ValLaw.orE a b) c = ValLaw.orE a (ValLaw.orE b c) := by
  unfold ValLaw.orE
  by_cases h : a = 0
  · rw [if_pos h, if_pos h]
  · rw [if_neg h, if_neg h, if_neg h]
theorem cp_step {a b : ValLaw.Base} (ha : a.2.2.2 ∈ ValLaw.wordsU) (hb : b.2.2.2 ∈ ValLaw.wordsU) {lx lx2 ly ly2 : List Value} {c d : Int} (h2 : SpOK (spC2 15 (fz ⟨lx⟩) (fz ⟨lx2⟩) c)) (h3 : SpOK (spC3 28 (fz ⟨ly⟩) (fz ⟨ly2⟩) d)) :
    Cp (vV a.1 a.2.1 a.2.2.1 (bl a.2.2.2) lx ly) (vV b.1 b.2.1 b.2.2.1 (bl b.2.2.2) lx2 ly2) (ValLaw.orE (ValLaw.cmpB a b) (ValLaw.orE c d)) := by
  refine ⟨?_, rfl, rfl⟩
  have e0 := cp_eq a.1 b.1 a.2.1 b.2.1 a.2.2.1 b.2.2.1 (bl a.2.2.2) (bl b.2.2.2) lx lx2 ly ly2 c d (fun v => v = .int .i64 (ValLaw.orE (ValLaw.cmpB a b) (ValLaw.orE c d)))
  refine FnOK.ftree (spCi_ok.or (spFl_ok.or (h2.or h3))).cfg mixed Tryz.func15 someCP e0 ?_
  have hR : ValLaw.orE (ValLaw.cmpB a b) (ValLaw.orE c d) = ValLaw.orE (ValLaw.cmpI a.1 b.1) (ValLaw.orE (IntKind.i64.wrap (ValLaw.flagN a.2.1 - ValLaw.flagN b.2.1)) (ValLaw.orE (ValLaw.cmpI a.2.2.1 b.2.2.1) (ValLaw.orE (Go.Extern.BytealgCompare.cmp (bl a.2.2.2) (bl b.2.2.2)) (ValLaw.orE c d)))) := by
    rw [flag_wrap, words_cmp _ ha _ hb]
    unfold ValLaw.cmpB ValLaw.cmp2 ValLaw.cmp3
    rw [orE_assoc, orE_assoc, orE_assoc]
  refine cpT_mk (fun q1 q2 q3 q4 => ?_) _ hR
  rw [q1, q2, q3, q4] at hR
  have hR : ValLaw.orE (ValLaw.cmpB a b) (ValLaw.orE c d) = ValLaw.orE c d := hR
  refine need_mk (by rw [eqV_self, eqV_self]; rfl) ?_
  by_cases hc : c = 0
  · refine pick_f (by rw [hc]; rfl) (need_mk (by rw [eqV_self, eqV_self]; rfl) ?_)
    rw [hR, hc]; rfl
  · refine pick_t (bne_iff_ne.2 hc) ?_
    rw [hR]
    unfold ValLaw.orE
    rw [if_neg hc]
theorem c1_step {n : Nat} {t t2 : List UInt8} (ht : t ∈ ValLaw.namesU) (ht2 : t2 ∈ ValLaw.namesU) {x y : ValLaw.T n} {c : Int} (h : Cp (enc n x) (enc n y) c) : C1p (mbr t (enc n x)) (mbr t2 (enc n y)) (ValLaw.orE (ValLaw.cmpW t t2) c) := by
  obtain ⟨k, f, m, s, lx, ly, hx⟩ := enc_vV n x
  obtain ⟨k2, f2, m2, s2, lx2, ly2, hy⟩ := enc_vV n y
  rw [hx, hy] at h ⊢
  refine ⟨?_, rfl, rfl⟩
  have e0 := c1_eq k k2 f f2 m m2 s s2 t t2 lx lx2 ly ly2 c (fun v => v = .int .i64 (ValLaw.orE (ValLaw.cmpW t t2) c))
  refine FnOK.ftree (spCp_ok fun _ => h).cfg mixed Tryz.func28 someC1 e0 (need_mk (by rw [eqV_self, eqV_self]; rfl) ?_)
  rw [names_cmp _ ht _ ht2]
  unfold ValLaw.orE
  by_cases h1 : ValLaw.cmpW t t2 = 0
  · refine pick_f (by rw [h1]; rfl) ?_
    rw [if_pos h1]
    by_cases hc : c = 0
    · exact pick_f (by rw [hc]; rfl) (by rw [hc])
    · exact pick_t (bne_iff_ne.2 hc) rfl
  · refine pick_t (bne_iff_ne.2 h1) ?_
    rw [if_neg h1]
theorem cp_enc : ∀ (n : Nat) (v w : ValLaw.T n), ValLaw.GV n v → ValLaw.GV n w → Cp (enc n v) (enc n w) (ValLaw.cmp n v w)
  | 0, v, w, hv, hw => by
    have h2 := spC2_ok (cf_fn (g := enc 0) (enc_e6 0) (C := fun _ _ => 0) (xs := []) (ys := []) (Nat.zero_le _) (fun x hx => by cases hx))
    have h3 := spC3_ok (cg_fn (g := fun p : ValLaw.W × ValLaw.T 0 => mbr p.1 (enc 0 p.2)) (fun p => mbr_e7 p.1 0 p.2) (C := fun _ _ => 0) (xs := []) (ys := []) (Nat.zero_le _) (fun x hx => by cases hx))
    have := cp_step hv.2.1 hw.2.1 h2 h3
    have e : ValLaw.orE (ValLaw.cmpB v w) (ValLaw.orE (ValLaw.cmpL (fun _ _ => 0) ([] : List (ValLaw.T 0)) []) (ValLaw.cmpL (fun _ _ => 0) ([] : List (ValLaw.W × ValLaw.T 0)) [])) = ValLaw.cmp 0 v w := by
      show ValLaw.orE (ValLaw.cmpB v w) 0 = ValLaw.cmpB v w
      unfold ValLaw.orE
      split <;> omega
    rw [e] at this
    exact this
  | n + 1, v, w, ⟨v1, _, _, v4, v5, v6, v7⟩, ⟨w1, _, _, w4, w5, w6, w7⟩ => by
    have l7 : v.2.2.length ≤ 7 := by have := v7.length_le; simpa [ValLaw.namesU] using this
    have h2 := spC2_ok (cf_fn (g := enc n) (enc_e6 n) (C := ValLaw.cmp n) (xs := v.2.1) (ys := w.2.1) (by omega) (fun x hx y hy => cp_enc n x y (v4 x hx) (w4 y hy)))
    have h3 := spC3_ok (cg_fn (g := fun p : ValLaw.W × ValLaw.T n => mbr p.1 (enc n p.2)) (fun p => mbr_e7 p.1 n p.2) (C := fun x y => ValLaw.orE (ValLaw.cmpW x.1 y.1) (ValLaw.cmp n x.2 y.2)) (xs := v.2.2) (ys := w.2.2) (by omega)
      (fun x hx y hy => c1_step (v7.subset (List.mem_map.2 ⟨x, hx, rfl⟩)) (w7.subset (List.mem_map.2 ⟨y, hy, rfl⟩)) (cp_enc n x.2 y.2 (v5 x hx) (w5 y hy))))
    exact cp_step v1.2.1 w1.2.1 h2 h3
end Go.Proofs.YtljfobpjblnagaaGreatDoor
