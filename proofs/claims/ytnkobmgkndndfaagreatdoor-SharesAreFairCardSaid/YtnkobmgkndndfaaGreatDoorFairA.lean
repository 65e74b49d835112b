/-
  Shares of what there is: plain laws; 'shareFault' and 'shares' as specifications.
-/
import Derived.Test.YtnkobmgkndndfaaGreatDoorBase
namespace FairLaw

/-- Shares of a level. A pair: what is wanted, the weight. -/
def shL (ws : List (Int × Int)) (lv : Int) : List Int := ws.map fun p => min p.1 (p.2 * lv)
def sumL : List Int → Int
  | [] => 0
  | x :: l => x + sumL l
/-- What is left is handed out, one after another. -/
def topL (most : Int) : List (Int × Int) → List Int → Int → List Int
  | p :: ws, o :: out, s => (o + min (min (p.1 - o) p.2) (most - s)) :: topL most ws out (s + min (min (p.1 - o) p.2) (most - s))
  | _, _, _ => []

/-- What is asked of the lists. -/
def Ok (ws : List (Int × Int)) (M : Int) : Prop := ∀ p ∈ ws, 0 ≤ p.1 ∧ 1 ≤ p.2 ∧ p.1 ≤ M

theorem shL_len (ws : List (Int × Int)) (lv : Int) : (shL ws lv).length = ws.length := by simp [shL]
theorem shL_all {ws : List (Int × Int)} {M : Int} (h : Ok ws M) : shL ws M = ws.map Prod.fst := by
  refine List.map_congr_left fun p hp => ?_
  obtain ⟨h1, h2, h3⟩ := h p hp
  have : M ≤ p.2 * M := by
    have := Int.mul_le_mul_of_nonneg_right h2 (show 0 ≤ M by omega)
    omega
  omega
theorem sum_mono (ws : List (Int × Int)) {a b : Int} (hw : ∀ p ∈ ws, 0 ≤ p.2) (h : a ≤ b) : sumL (shL ws a) ≤ sumL (shL ws b) := by
  induction ws with
  | nil => exact Int.le_refl _
  | cons p ws ih =>
    have h1 := ih fun q hq => hw q (by simp [hq])
    have h2 := Int.mul_le_mul_of_nonneg_left h (hw p (by simp))
    simp only [shL, List.map_cons, sumL] at h1 ⊢
    omega

/-- What each could still take. -/
def capL : List (Int × Int) → List Int → Int
  | p :: ws, o :: out => min (p.1 - o) p.2 + capL ws out
  | _, _ => 0
theorem cap_pos : ∀ (ws : List (Int × Int)) (out : List Int), (∀ p ∈ ws, 0 ≤ p.2) → (∀ x ∈ ws.zip out, x.2 ≤ x.1.1) → 0 ≤ capL ws out
  | [], _, _, _ => by simp [capL]
  | _ :: _, [], _, _ => by simp [capL]
  | p :: ws, o :: out, h1, h2 => by
    have ih := cap_pos ws out (fun q hq => h1 q (by simp [hq])) (fun x hx => h2 x (by simp [hx]))
    have := h1 p (by simp)
    have := h2 (p, o) (by simp)
    simp only [capL]
    simp only at this
    omega
theorem top_sum (most : Int) : ∀ (ws : List (Int × Int)) (out : List Int) (s : Int), out.length = ws.length → s ≤ most → (∀ p ∈ ws, 0 ≤ p.2) → (∀ x ∈ ws.zip out, x.2 ≤ x.1.1) →
    s + sumL (topL most ws out s) - sumL out = min most (s + capL ws out)
  | [], [], s, _, h2, _, _ => by simp only [topL, sumL, capL]; omega
  | [], _ :: _, _, h, _, _, _ => by simp at h
  | _ :: _, [], _, h, _, _, _ => by simp at h
  | p :: ws, o :: out, s, h1, h2, h3, h4 => by
    have c0 := cap_pos ws out (fun q hq => h3 q (by simp [hq])) (fun x hx => h4 x (by simp [hx]))
    have ih := top_sum most ws out (s + min (min (p.1 - o) p.2) (most - s)) (by simpa using h1) (by omega) (fun q hq => h3 q (by simp [hq])) (fun x hx => h4 x (by simp [hx]))
    have e1 := h3 p (by simp)
    have e2 := h4 (p, o) (by simp)
    simp only [topL, sumL, capL]
    simp only at e2
    omega
theorem top_len (most : Int) : ∀ (ws : List (Int × Int)) (out : List Int) (s : Int), out.length = ws.length → (topL most ws out s).length = ws.length
  | [], [], _, _ => rfl
  | [], _ :: _, _, h => by simp at h
  | _ :: _, [], _, h => by simp at h
  | p :: ws, o :: out, s, h => by simp only [topL, List.length_cons]; rw [top_len most ws out _ (by simpa using h)]
/-- What is handed out to each: between what they had and a weight more, and no more than is wanted. -/
theorem top_get (most : Int) : ∀ (ws : List (Int × Int)) (out : List Int) (s : Int) (i : Nat) (p : Int × Int) (o x : Int), s ≤ most → (∀ p ∈ ws, 0 ≤ p.2) → (∀ x ∈ ws.zip out, x.2 ≤ x.1.1) →
    ws[i]? = some p → out[i]? = some o → (topL most ws out s)[i]? = some x → o ≤ x ∧ x ≤ p.1 ∧ x ≤ o + p.2
  | [], _, _, i, _, _, _, _, _, _, h, _, _ => by simp at h
  | _ :: _, [], _, i, _, _, _, _, _, _, _, h, _ => by simp at h
  | q :: ws, r :: out, s, 0, p, o, x, hs, h1, h2, hp, ho, hx => by
    have e1 := h1 q (by simp)
    have e2 := h2 (q, r) (by simp)
    simp only [List.getElem?_cons_zero, Option.some.injEq, topL] at hp ho hx
    subst hp ho
    simp only at e2
    omega
  | q :: ws, r :: out, s, i + 1, p, o, x, hs, h1, h2, hp, ho, hx => by
    have e1 := h1 q (by simp)
    have e2 := h2 (q, r) (by simp)
    simp only at e2
    simp only [List.getElem?_cons_succ, topL] at hp ho hx
    exact top_get most ws out _ i p o x (by omega) (fun q hq => h1 q (by simp [hq])) (fun x hx => h2 x (by simp [hx])) hp ho hx

/-- A level that can be, where one more is none. -/
def Low (ws : List (Int × Int)) (most low : Int) : Prop := 0 ≤ low ∧ sumL (shL ws low) ≤ most ∧ most < sumL (shL ws (low + 1))
def fairAt (ws : List (Int × Int)) (most low : Int) : List Int := topL most ws (shL ws low) (sumL (shL ws low))

theorem zip_sh {ws : List (Int × Int)} {lv : Int} : ∀ x ∈ ws.zip (shL ws lv), x.2 ≤ x.1.1 := by
  induction ws with
  | nil => intro x hx; simp [shL] at hx
  | cons p ws ih =>
    intro x hx
    simp only [shL, List.map_cons, List.zip_cons_cons, List.mem_cons] at hx
    rcases hx with rfl | hx
    · simp only; omega
    · exact ih x hx
theorem sh_cap (ws : List (Int × Int)) (lv : Int) (hw : ∀ p ∈ ws, 0 ≤ p.2) : sumL (shL ws (lv + 1)) ≤ sumL (shL ws lv) + capL ws (shL ws lv) := by
  induction ws with
  | nil => simp [shL, sumL, capL]
  | cons p ws ih =>
    have e : p.2 * (lv + 1) = p.2 * lv + p.2 := by rw [Int.mul_add, Int.mul_one]
    have h1 := hw p (by simp)
    have ih := ih fun q hq => hw q (by simp [hq])
    simp only [shL, List.map_cons, sumL, capL] at ih ⊢
    omega

structure Good (ws : List (Int × Int)) (most : Int) (R : List Int) : Prop where
  len : R.length = ws.length
  le : ∀ (i : Nat) (p : Int × Int) (x : Int), ws[i]? = some p → R[i]? = some x → 0 ≤ x ∧ x ≤ p.1
  sum : sumL R = min most (sumL (ws.map Prod.fst))
  fair : ∀ (i k : Nat) (p q : Int × Int) (x y : Int), ws[i]? = some p → ws[k]? = some q → R[i]? = some x → R[k]? = some y → x < p.1 → y ≤ (x.tdiv p.2 + 1) * q.2

theorem sh_get {ws : List (Int × Int)} {lv : Int} {i : Nat} {p : Int × Int} (h : ws[i]? = some p) : (shL ws lv)[i]? = some (min p.1 (p.2 * lv)) := by
  simp [shL, h]
theorem good_at {ws : List (Int × Int)} {M most low : Int} (h : Ok ws M) (hl : Low ws most low) : Good ws most (fairAt ws most low) := by
  obtain ⟨h0, h1, h2⟩ := hl
  have hw : ∀ p ∈ ws, 0 ≤ p.2 := fun p hp => by have := h p hp; omega
  have hget : ∀ (i : Nat) (p : Int × Int) (x : Int), ws[i]? = some p → (fairAt ws most low)[i]? = some x → min p.1 (p.2 * low) ≤ x ∧ x ≤ p.1 ∧ x ≤ min p.1 (p.2 * low) + p.2 := by
    intro i p x hp hx
    exact top_get most ws _ _ i p _ x h1 hw zip_sh hp (sh_get hp) hx
  refine ⟨?_, ?_, ?_, ?_⟩
  · exact top_len most ws _ _ (shL_len ws low)
  · intro i p x hp hx
    obtain ⟨e1, e2, _⟩ := hget i p x hp hx
    obtain ⟨k1, k2, _⟩ := h p (List.mem_of_getElem? hp)
    have := Int.mul_nonneg (show 0 ≤ p.2 by omega) h0
    omega
  · have e := top_sum most ws (shL ws low) (sumL (shL ws low)) (shL_len ws low) h1 hw zip_sh
    have e2 := sh_cap ws low hw
    have e3 : sumL (shL ws (low + 1)) ≤ sumL (ws.map Prod.fst) := by
      have : ∀ ws : List (Int × Int), sumL (shL ws (low + 1)) ≤ sumL (ws.map Prod.fst) := by
        intro ws
        induction ws with
        | nil => exact Int.le_refl _
        | cons p ws ih => simp only [shL, List.map_cons, sumL] at ih ⊢; omega
      exact this ws
    have e4 : sumL (fairAt ws most low) = sumL (topL most ws (shL ws low) (sumL (shL ws low))) := rfl
    omega
  · intro i k p q x y hp hq hx hy hlt
    obtain ⟨a1, a2, _⟩ := hget i p x hp hx
    obtain ⟨_, _, b3⟩ := hget k q y hq hy
    obtain ⟨_, k2, _⟩ := h p (List.mem_of_getElem? hp)
    have hq2 := hw q (List.mem_of_getElem? hq)
    have hx2 : p.2 * low ≤ x := by omega
    have hx0 : 0 ≤ x := by have := Int.mul_nonneg (show 0 ≤ p.2 by omega) h0; omega
    have hd : low ≤ x.tdiv p.2 := by
      rw [Int.tdiv_eq_ediv_of_nonneg hx0]
      exact (Int.le_ediv_iff_mul_le (by omega)).2 (by rw [Int.mul_comm]; exact hx2)
    have e1 : (low + 1) * q.2 ≤ (x.tdiv p.2 + 1) * q.2 := Int.mul_le_mul_of_nonneg_right (by omega) hq2
    have e2 : (low + 1) * q.2 = q.2 * low + q.2 := by rw [Int.add_mul, Int.one_mul, Int.mul_comm]
    omega
theorem good_all {ws : List (Int × Int)} {M most : Int} (h : Ok ws M) (hm : sumL (shL ws M) ≤ most) : Good ws most (shL ws M) := by
  rw [shL_all h] at hm ⊢
  refine ⟨by simp, ?_, by omega, ?_⟩
  · intro i p x hp hx
    have hx : x = p.1 := by simpa [hp] using hx.symm
    have := h p (List.mem_of_getElem? hp)
    omega
  · intro i k p q x y hp _ hx _ hlt
    have hx : x = p.1 := by simpa [hp] using hx.symm
    omega

/-- The search for the level. -/
def bsL (ws : List (Int × Int)) (most : Int) : Nat → Int → Int → Int
  | 0, lo, _ => lo
  | f + 1, lo, hi => if hi - lo > 1 then (if sumL (shL ws ((lo + hi).tdiv 2)) ≤ most then bsL ws most f ((lo + hi).tdiv 2) hi else bsL ws most f lo ((lo + hi).tdiv 2)) else lo
theorem bs_low (ws : List (Int × Int)) (most : Int) : ∀ (f : Nat) (lo hi : Int), 0 ≤ lo → lo < hi → hi - lo ≤ 2 ^ f → sumL (shL ws lo) ≤ most → most < sumL (shL ws hi) → Low ws most (bsL ws most f lo hi)
  | 0, lo, hi, h0, h1, h2, h3, h4 => by
    have : hi = lo + 1 := by simp at h2; omega
    subst this
    exact ⟨h0, h3, h4⟩
  | f + 1, lo, hi, h0, h1, h2, h3, h4 => by
    have e : (2 : Int) ^ (f + 1) = 2 * 2 ^ f := by rw [Int.pow_succ, Int.mul_comm]
    rw [e] at h2
    have ed : (lo + hi).tdiv 2 = (lo + hi) / 2 := Int.tdiv_eq_ediv_of_nonneg (by omega)
    unfold bsL
    split
    · rw [ed]
      split
      · rename_i hs
        exact bs_low ws most f _ hi (by omega) (by omega) (by omega) hs h4
      · rename_i hs
        exact bs_low ws most f lo _ h0 (by omega) (by omega) h3 (by omega)
    · have : hi = lo + 1 := by omega
      subst this
      exact ⟨h0, h3, h4⟩
theorem sum_zero {ws : List (Int × Int)} (h : ∀ p ∈ ws, 0 ≤ p.1) : sumL (shL ws 0) = 0 := by
  induction ws with
  | nil => rfl
  | cons p ws ih =>
    have := h p (by simp)
    have ih := ih fun q hq => h q (by simp [hq])
    simp only [shL, List.map_cons, sumL, Int.mul_zero] at ih ⊢
    omega
/-- What is divided. -/
def fairL (ws : List (Int × Int)) (most M : Int) (f : Nat) : List Int := if sumL (shL ws M) ≤ most then shL ws M else fairAt ws most (bsL ws most f 0 M)
theorem fair_good {ws : List (Int × Int)} {most M : Int} {f : Nat} (h : Ok ws M) (h0 : 0 ≤ most) (hM : 0 < M) (hf : M ≤ 2 ^ f) : Good ws most (fairL ws most M f) := by
  unfold fairL
  split
  · rename_i hs
    exact good_all h hs
  · rename_i hs
    refine good_at h (bs_low ws most f 0 M (Int.le_refl _) hM (by omega) ?_ (by omega))
    rw [sum_zero fun p hp => (h p hp).1]
    exact h0
end FairLaw

namespace Go.Proofs.YtnkobmgkndndfaaGreatDoor
open Go.Ev Go.RowKit

noncomputable def SF0 : SC := ⟨idn, fun _ _ _ => none, true, true⟩
theorem SF0_ok : SF0.cfg.OK Tryz.prog := none_ok.cfg
def iv (n : Int) : Value := .int .i64 n
def wV (ws : List (Int × Int)) : List Value := ws.map fun p => iv p.1
def gV (ws : List (Int × Int)) : List Value := ws.map fun p => iv p.2
/-- What is asked of wants and weights. -/
def OkW (ws : List (Int × Int)) : Prop := ∀ p ∈ ws, 0 ≤ p.1 ∧ p.1 ≤ 1000 ∧ 1 ≤ p.2 ∧ p.2 ≤ 1000
theorem at_w {ws : List (Int × Int)} {i : Nat} (h : i < ws.length) : (Array.mk (wV ws)).toList.getD (i : Int).toNat (Value.tuple { toList := [] }) = iv (ws.getD i (0, 0)).1 := by
  simp [wV, List.getD, h]
theorem at_g {ws : List (Int × Int)} {i : Nat} (h : i < ws.length) : (Array.mk (gV ws)).toList.getD (i : Int).toNat (Value.tuple { toList := [] }) = iv (ws.getD i (0, 0)).2 := by
  simp [gV, List.getD, h]
theorem drop_p {ws : List (Int × Int)} {i : Nat} (h : i < ws.length) : ws.drop i = ws.getD i (0, 0) :: ws.drop (i + 1) := by
  rw [List.drop_eq_getElem_cons h]
  simp [List.getD, h]
theorem ok_at {ws : List (Int × Int)} (hw : OkW ws) {i : Nat} (h : i < ws.length) : 0 ≤ (ws.getD i (0, 0)).1 ∧ (ws.getD i (0, 0)).1 ≤ 1000 ∧ 1 ≤ (ws.getD i (0, 0)).2 ∧ (ws.getD i (0, 0)).2 ≤ 1000 := by
  have e : ws.getD i (0, 0) = ws[i] := by simp [List.getD, h]
  rw [e]
  exact hw _ (List.getElem_mem h)
theorem in_w {ws : List (Int × Int)} {i : Nat} (h : i < ws.length) : (decide (0 ≤ (i : Int)) && decide ((i : Int) < ((Array.mk (wV ws)).size : Int)) && true) = true := by
  simp [wV]; omega
theorem in_g {ws : List (Int × Int)} {i : Nat} (h : i < ws.length) : (decide (0 ≤ (i : Int)) && decide ((i : Int) < ((Array.mk (gV ws)).size : Int)) && true) = true := by
  simp [gV]; omega
theorem flto (xs ys : List Value) (n i : Int) (B : List Value → AH → Prop) (Q : AExit → List Value → AH → Prop) : (once 0 Tryz.prog SF0 [] noHooks 300 36 [2, 19, 20, 21] [] [] [] (oneLoop (codeOf Tryz.f9) 8) [fz ⟨ys⟩, fz ⟨xs⟩, .int .i64 n, .int .i64 i] h0 B Q) = bif decide (i < n) then bif decide (0 ≤ i) && decide (i < ((Array.mk xs).size : Int)) && true then (Array.mk xs).toList.getD i.toNat (Value.tuple { toList := [] }) = Value.int IntKind.i64 (toInt ((Array.mk xs).toList.getD i.toNat (Value.tuple { toList := [] }))) ∧ bif decide (toInt ((Array.mk xs).toList.getD i.toNat (Value.tuple { toList := [] })) < 0) then Q AExit.ret [] { next := 0, low := 0, blocks := [] } else bif decide (toInt ((Array.mk xs).toList.getD i.toNat (Value.tuple { toList := [] })) > 1000000000) then Q AExit.ret [] { next := 0, low := 0, blocks := [] } else bif decide (0 ≤ i) && decide (i < ((Array.mk ys).size : Int)) && true then (Array.mk ys).toList.getD i.toNat (Value.tuple { toList := [] }) = Value.int IntKind.i64 (toInt ((Array.mk ys).toList.getD i.toNat (Value.tuple { toList := [] }))) ∧ bif decide (toInt ((Array.mk ys).toList.getD i.toNat (Value.tuple { toList := [] })) < 1) then Q AExit.ret [] { next := 0, low := 0, blocks := [] } else bif decide (toInt ((Array.mk ys).toList.getD i.toNat (Value.tuple { toList := [] })) > 1000) then Q AExit.ret [] { next := 0, low := 0, blocks := [] } else B [Value.func (Fn.yield 0) { toList := ys } { toList := [] }, Value.func (Fn.yield 0) { toList := xs } { toList := [] }, Value.int IntKind.i64 n, Value.int IntKind.i64 (IntKind.i64.wrap (i + 1))] { next := 0, low := 0, blocks := [] } else False else False else Q (AExit.exit 0) [] { next := 0, low := 0, blocks := [] } := by kernel_rfl
theorem fltf (xs ys : List Value) (m : Int) (C : List Value → AH → Prop) (Q : Value → AH → Prop) : (tfn Tryz.prog SF0 [] (hook1 8 (hookLS 0 36 [2, 19, 20, 21] [] [] (fun vals h K => C vals h ∧ K (.exit 0) [] h0))) 300 [] Tryz.f9 [.int .i64 m, fz ⟨xs⟩, fz ⟨ys⟩] h0 Q) = bif decide (m < 0) then Q (Value.int IntKind.i64 1) { next := 0, low := 0, blocks := [] } else bif decide (m > 1000000000) then Q (Value.int IntKind.i64 1) { next := 0, low := 0, blocks := [] } else bif decide (((Array.mk xs).size : Int) > 500) then Q (Value.int IntKind.i64 2) { next := 0, low := 0, blocks := [] } else bif ((Array.mk ys).size : Int) != ((Array.mk xs).size : Int) then Q (Value.int IntKind.i64 3) { next := 0, low := 0, blocks := [] } else C [Value.func (Fn.yield 0) { toList := ys } { toList := [] }, Value.func (Fn.yield 0) { toList := xs } { toList := [] }, Value.int IntKind.i64 ((Array.mk xs).size : Int), Value.int IntKind.i64 0] { next := 0, low := 0, blocks := [] } ∧ Q (Value.int IntKind.i64 0) { next := 0, low := 0, blocks := [] } := by kernel_rfl
theorem sho (xs ys cs : List Value) (j : Nat) (l s n i : Int) (B : List Value → AH → Prop) (Q : AExit → List Value → AH → Prop) : (once 0 Tryz.prog SF0 [] noHooks 300 38 [1, 2, 8, 9, 13, 14, 15] [0] [8, 9] [0] (oneLoop (codeOf Tryz.f10) 4) [fz ⟨ys⟩, .int .i64 l, .slice (some ⟨0, 0, none⟩) j j, .int .i64 s, fz ⟨xs⟩, .int .i64 n, .int .i64 i] (⟨1, 1, [(0, .cells ⟨cs⟩ 3 (0, 0))]⟩ : AH) B Q) = bif decide (i < n) then bif decide (0 ≤ i) && decide (i < ((Array.mk xs).size : Int)) && true then (Array.mk xs).toList.getD i.toNat (Value.tuple { toList := [] }) = Value.int IntKind.i64 (toInt ((Array.mk xs).toList.getD i.toNat (Value.tuple { toList := [] }))) ∧ bif decide (0 ≤ i) && decide (i < ((Array.mk ys).size : Int)) && true then (Array.mk ys).toList.getD i.toNat (Value.tuple { toList := [] }) = Value.int IntKind.i64 (toInt ((Array.mk ys).toList.getD i.toNat (Value.tuple { toList := [] }))) ∧ bif (j + 1).ble j then False else bif (j + 1).ble 9223372036854775807 && ((j + 1) * 8).ble 140737488355328 then bif (0 + j * 1).ble (Array.mk cs).size && true && true then NoNames (Obj.cells { toList := List.take (j * 1) (List.drop 0 (Array.mk cs).toList) ++ [Value.int IntKind.i64 (if IntKind.i64.wrap (toInt ((Array.mk ys).toList.getD i.toNat (Value.tuple { toList := [] })) * l) < toInt ((Array.mk xs).toList.getD i.toNat (Value.tuple { toList := [] })) then IntKind.i64.wrap (toInt ((Array.mk ys).toList.getD i.toNat (Value.tuple { toList := [] })) * l) else toInt ((Array.mk xs).toList.getD i.toNat (Value.tuple { toList := [] })))] } 3 (0, 0)) ∧ B [Value.func (Fn.yield 0) { toList := ys } { toList := [] }, Value.int IntKind.i64 l, Value.slice (some { block := 0, off := 0 }) (j + 1) (j + 1), Value.int IntKind.i64 (IntKind.i64.wrap (s + if IntKind.i64.wrap (toInt ((Array.mk ys).toList.getD i.toNat (Value.tuple { toList := [] })) * l) < toInt ((Array.mk xs).toList.getD i.toNat (Value.tuple { toList := [] })) then IntKind.i64.wrap (toInt ((Array.mk ys).toList.getD i.toNat (Value.tuple { toList := [] })) * l) else toInt ((Array.mk xs).toList.getD i.toNat (Value.tuple { toList := [] })))), Value.func (Fn.yield 0) { toList := xs } { toList := [] }, Value.int IntKind.i64 n, Value.int IntKind.i64 (IntKind.i64.wrap (i + 1))] { next := 1, low := 1, blocks := [(0, Obj.cells { toList := List.take (j * 1) (List.drop 0 (Array.mk cs).toList) ++ [Value.int IntKind.i64 (if IntKind.i64.wrap (toInt ((Array.mk ys).toList.getD i.toNat (Value.tuple { toList := [] })) * l) < toInt ((Array.mk xs).toList.getD i.toNat (Value.tuple { toList := [] })) then IntKind.i64.wrap (toInt ((Array.mk ys).toList.getD i.toNat (Value.tuple { toList := [] })) * l) else toInt ((Array.mk xs).toList.getD i.toNat (Value.tuple { toList := [] })))] } 3 (0, 0))] } else False else False else False else False else NoNames (Obj.cells { toList := cs } 3 (0, 0)) ∧ Q (AExit.exit 0) [Value.slice (some { block := 0, off := 0 }) j j, Value.int IntKind.i64 s] { next := 1, low := 1, blocks := [(0, Obj.cells { toList := cs } 3 (0, 0))] } := by kernel_rfl
theorem sh0 (xs ys : List Value) (l s n i : Int) (B : List Value → AH → Prop) (Q : AExit → List Value → AH → Prop) : (once 0 Tryz.prog SF0 [] noHooks 300 38 [1, 2, 8, 9, 13, 14, 15] [0] [8, 9] [0] (oneLoop (codeOf Tryz.f10) 4) [fz ⟨ys⟩, .int .i64 l, .slice none 0 0, .int .i64 s, fz ⟨xs⟩, .int .i64 n, .int .i64 i] h0 B Q) = bif decide (i < n) then bif decide (0 ≤ i) && decide (i < ((Array.mk xs).size : Int)) && true then (Array.mk xs).toList.getD i.toNat (Value.tuple { toList := [] }) = Value.int IntKind.i64 (toInt ((Array.mk xs).toList.getD i.toNat (Value.tuple { toList := [] }))) ∧ bif decide (0 ≤ i) && decide (i < ((Array.mk ys).size : Int)) && true then (Array.mk ys).toList.getD i.toNat (Value.tuple { toList := [] }) = Value.int IntKind.i64 (toInt ((Array.mk ys).toList.getD i.toNat (Value.tuple { toList := [] }))) ∧ NoNames (Obj.cells { toList := [Value.int IntKind.i64 (if IntKind.i64.wrap (toInt ((Array.mk ys).toList.getD i.toNat (Value.tuple { toList := [] })) * l) < toInt ((Array.mk xs).toList.getD i.toNat (Value.tuple { toList := [] })) then IntKind.i64.wrap (toInt ((Array.mk ys).toList.getD i.toNat (Value.tuple { toList := [] })) * l) else toInt ((Array.mk xs).toList.getD i.toNat (Value.tuple { toList := [] })))] } 3 (0, 0)) ∧ B [Value.func (Fn.yield 0) { toList := ys } { toList := [] }, Value.int IntKind.i64 l, Value.slice (some { block := 0, off := 0 }) 1 1, Value.int IntKind.i64 (IntKind.i64.wrap (s + if IntKind.i64.wrap (toInt ((Array.mk ys).toList.getD i.toNat (Value.tuple { toList := [] })) * l) < toInt ((Array.mk xs).toList.getD i.toNat (Value.tuple { toList := [] })) then IntKind.i64.wrap (toInt ((Array.mk ys).toList.getD i.toNat (Value.tuple { toList := [] })) * l) else toInt ((Array.mk xs).toList.getD i.toNat (Value.tuple { toList := [] })))), Value.func (Fn.yield 0) { toList := xs } { toList := [] }, Value.int IntKind.i64 n, Value.int IntKind.i64 (IntKind.i64.wrap (i + 1))] { next := 1, low := 1, blocks := [(0, Obj.cells { toList := [Value.int IntKind.i64 (if IntKind.i64.wrap (toInt ((Array.mk ys).toList.getD i.toNat (Value.tuple { toList := [] })) * l) < toInt ((Array.mk xs).toList.getD i.toNat (Value.tuple { toList := [] })) then IntKind.i64.wrap (toInt ((Array.mk ys).toList.getD i.toNat (Value.tuple { toList := [] })) * l) else toInt ((Array.mk xs).toList.getD i.toNat (Value.tuple { toList := [] })))] } 3 (0, 0))] } else False else False else Q (AExit.exit 0) [Value.slice none 0 0, Value.int IntKind.i64 s] { next := 0, low := 0, blocks := [] } := by kernel_rfl
theorem shf (xs ys cs : List Value) (j : Nat) (l s : Int) (C : List Value → AH → Prop) (Q : Value → Option Obj → Prop) : (tfn Tryz.prog SF0 [] (hook1 4 (hookLS 0 38 [1, 2, 8, 9, 13, 14, 15] [0] [8, 9] (fun vals h K => C vals h ∧ K (.exit 0) [.slice (some ⟨0, 0, none⟩) j j, .int .i64 s] (⟨1, 1, [(0, .cells ⟨cs⟩ 3 (0, 0))]⟩ : AH)))) 300 [] Tryz.f10 [fz ⟨xs⟩, fz ⟨ys⟩, .int .i64 l] h0 (fun v h => Q v (h.get 0))) = (C [Value.func (Fn.yield 0) { toList := ys } { toList := [] }, Value.int IntKind.i64 l, Value.slice none 0 0, Value.int IntKind.i64 0, Value.func (Fn.yield 0) { toList := xs } { toList := [] }, Value.int IntKind.i64 ((Array.mk xs).size : Int), Value.int IntKind.i64 0] { next := 0, low := 0, blocks := [] } ∧ Q (Value.tuple { toList := [Value.slice (some { block := 0, off := 0 }) j j, Value.int IntKind.i64 s] }) (some (Obj.cells { toList := cs } 3 (0, 0)))) := by kernel_rfl

theorem ltI {n m : Int} (h : m ≤ n) : decide (toInt (iv n) < m) = false := by
  have : ¬ n < m := by omega
  exact decide_eq_false this
theorem gtI {n m : Int} (h : n ≤ m) : decide (toInt (iv n) > m) = false := by
  have : ¬ n > m := by omega
  exact decide_eq_false this
theorem flt_loop {ws : List (Int × Int)} (hw : OkW ws) (hl : ws.length ≤ 100) (K : AExit → List Value → AH → Prop) (hK : K (.exit 0) [] h0) : ∀ (r i : Nat), i + r = ws.length →
    ∃ R, iter 0 Tryz.prog SF0 [] noHooks 300 36 [2, 19, 20, 21] [] [] [] (oneLoop (codeOf Tryz.f9) 8) R [fz ⟨gV ws⟩, fz ⟨wV ws⟩, .int .i64 (ws.length : Int), .int .i64 (i : Int)] h0 K := by
  have key : ∀ (r i : Nat), i + r = ws.length → iter 0 Tryz.prog SF0 [] noHooks 300 36 [2, 19, 20, 21] [] [] [] (oneLoop (codeOf Tryz.f9) 8) (r + 1) [fz ⟨gV ws⟩, fz ⟨wV ws⟩, .int .i64 (ws.length : Int), .int .i64 (i : Int)] h0 K := by
    intro r
    induction r with
    | zero =>
      intro i hi
      exact (flto _ _ _ _ _ K).mpr (pick_f (by simp; omega) hK)
    | succ r ih =>
      intro i hi
      have hi2 : i < ws.length := by omega
      obtain ⟨k1, k2, k3, k4⟩ := ok_at hw hi2
      refine (flto _ _ _ _ _ K).mpr (pick_t (by simp; omega) (need_mk (in_w hi2) ⟨?_, ?_⟩))
      · rw [at_w hi2]; rfl
      · rw [at_w hi2, at_g hi2]
        refine pick_f (ltI k1) (pick_f (gtI (Int.le_trans k2 (by omega))) (need_mk (in_g hi2) ⟨rfl, pick_f (ltI k3) (pick_f (gtI k4) ?_)⟩))
        rw [show IntKind.i64.wrap ((i : Int) + 1) = ((i + 1 : Nat) : Int) by rw [wrap_id _ (by omega) (by omega)]; rfl]
        exact ih (i + 1) (by omega)
  exact fun r i hi => ⟨_, key r i hi⟩
theorem one9 : (loopAt (codeOf Tryz.f9) 8).length = 1 := by kernel_rfl
theorem some9 : Tryz.f9.body.isSome = true := by kernel_rfl
theorem flt_fn {ws : List (Int × Int)} (hw : OkW ws) (hl : ws.length ≤ 100) (m : Int) (h1 : 0 ≤ m) (h2 : m ≤ 1000) : FnOK 0 Tryz.prog 9 ⟨[.int .i64 m, fz ⟨wV ws⟩, fz ⟨gV ws⟩]⟩ h0 (fun v _ => v = .int .i64 0) := by
  have hC : LSpec 0 Tryz.prog 36 (oneLoop (codeOf Tryz.f9) 8) (hookLS 0 36 [2, 19, 20, 21] [] [] (fun vals h K => (vals = [fz ⟨gV ws⟩, fz ⟨wV ws⟩, .int .i64 (ws.length : Int), .int .i64 0] ∧ h = h0) ∧ K (.exit 0) [] h0)) := by
    refine hook_ok (G := []) (L := noHooks) (f := 300) (sameX := []) SF0_ok mixed (by decide) (loops_none _ _ _ _) ?_
    rintro vals h K ⟨⟨rfl, rfl⟩, hK⟩
    exact flt_loop hw hl K hK ws.length 0 (by simp)
  refine FnOK.ttree SF0_ok mixed Tryz.func9 some9 (loops_one one9 hC) (fltf (wV ws) (gV ws) m (fun vals h => vals = [fz ⟨gV ws⟩, fz ⟨wV ws⟩, .int .i64 (ws.length : Int), .int .i64 0] ∧ h = h0) (fun v _ => v = .int .i64 0)) ?_
  refine pick_f (by simp; omega) (pick_f (by simp; omega) (pick_f (by simp [wV]; omega) (pick_f (by simp [wV, gV]) ⟨⟨?_, rfl⟩, rfl⟩)))
  simp [wV, fz]

open FairLaw
theorem shv {w g l : Int} (h0 : 0 ≤ w) (h1 : w ≤ 1000) (h2 : 1 ≤ g) (h3 : g ≤ 1000) (h4 : 0 ≤ l) (h5 : l ≤ 1000000000) :
    (if IntKind.i64.wrap (g * l) < w then IntKind.i64.wrap (g * l) else w) = min w (g * l) ∧ 0 ≤ min w (g * l) ∧ min w (g * l) ≤ 1000 := by
  have a := Int.mul_nonneg (show 0 ≤ g by omega) h4
  have b : g * l ≤ 1000 * 1000000000 := Int.mul_le_mul h3 h5 h4 (by omega)
  rw [wrap_id _ (by omega) (by omega)]
  generalize g * l = z at a b
  refine ⟨?_, by omega, by omega⟩
  split <;> omega
/-- A list of numbers that was built, and its memory. -/
def outV : List Int → Value
  | [] => .slice none 0 0
  | k :: l => .slice (some ⟨0, 0, none⟩) (k :: l).length (k :: l).length
def blkI (l : List Int) : AH := ⟨1, 1, [(0, .cells ⟨l.map iv⟩ 3 (0, 0))]⟩
def outH : List Int → AH
  | [] => h0
  | k :: l => blkI (k :: l)
theorem nn_int (l : List Int) (t : TypeId) (fr : Nat × Nat) : NoNames (.cells ⟨l.map iv⟩ t fr) := by
  intro v hv
  obtain ⟨s, _, rfl⟩ := List.mem_map.1 (show v ∈ l.map iv by simpa using hv)
  rfl
theorem ble_big8 (j : Nat) (h : j ≤ 4000) : ((j + 1).ble 9223372036854775807 && ((j + 1) * 8).ble 140737488355328) = true := by
  rw [Bool.and_eq_true, Nat.ble_eq, Nat.ble_eq]; omega
theorem sh_loop {ws : List (Int × Int)} (hw : OkW ws) (hl : ws.length ≤ 100) {l : Int} (hl0 : 0 ≤ l) (hl1 : l ≤ 1000000000) (K : AExit → List Value → AH → Prop) : ∀ (r i : Nat) (acc : List Int) (s : Int), i + r = ws.length → acc.length = i → 0 ≤ s → s ≤ 1000 * i →
    K (.exit 0) [outV (acc ++ shL (ws.drop i) l), .int .i64 (s + sumL (shL (ws.drop i) l))] (outH (acc ++ shL (ws.drop i) l)) →
    iter 0 Tryz.prog SF0 [] noHooks 300 38 [1, 2, 8, 9, 13, 14, 15] [0] [8, 9] [0] (oneLoop (codeOf Tryz.f10) 4) (r + 1) [fz ⟨gV ws⟩, .int .i64 l, outV acc, .int .i64 s, fz ⟨wV ws⟩, .int .i64 (ws.length : Int), .int .i64 (i : Int)] (outH acc) K := by
  intro r
  induction r with
  | zero =>
    intro i acc s h1 h2 h3 h4 h5
    rw [List.drop_eq_nil_of_le (by omega)] at h5
    simp only [shL, List.map_nil, List.append_nil, sumL, Int.add_zero] at h5
    cases acc with
    | nil => exact (sh0 _ _ _ _ _ _ _ K).mpr (pick_f (by simp; omega) h5)
    | cons k a => exact (sho _ _ _ _ _ _ _ _ _ K).mpr (pick_f (by simp; omega) ⟨nn_int (k :: a) _ _, h5⟩)
  | succ r ih =>
    intro i acc s h1 h2 h3 h4 h5
    have hi : i < ws.length := by omega
    obtain ⟨k1, k2, k3, k4⟩ := ok_at hw hi
    obtain ⟨e0, e2, e3⟩ := shv k1 k2 k3 k4 hl0 hl1
    have e1 : (if IntKind.i64.wrap (toInt (iv (ws.getD i (0, 0)).2) * l) < toInt (iv (ws.getD i (0, 0)).1) then IntKind.i64.wrap (toInt (iv (ws.getD i (0, 0)).2) * l) else toInt (iv (ws.getD i (0, 0)).1)) = min (ws.getD i (0, 0)).1 ((ws.getD i (0, 0)).2 * l) := e0
    rw [drop_p hi] at h5
    have ew : IntKind.i64.wrap ((i : Int) + 1) = ((i + 1 : Nat) : Int) := by rw [wrap_id _ (by omega) (by omega)]; rfl
    have es : IntKind.i64.wrap (s + min (ws.getD i (0, 0)).1 ((ws.getD i (0, 0)).2 * l)) = s + min (ws.getD i (0, 0)).1 ((ws.getD i (0, 0)).2 * l) := wrap_id _ (by omega) (by omega)
    have h6 := ih (i + 1) (acc ++ [min (ws.getD i (0, 0)).1 ((ws.getD i (0, 0)).2 * l)]) (s + min (ws.getD i (0, 0)).1 ((ws.getD i (0, 0)).2 * l)) (by omega) (by simp [h2]) (by omega) (by omega) (by
      simpa [shL, sumL, Int.add_assoc] using h5)
    cases acc with
    | nil =>
      refine (sh0 _ _ _ _ _ _ _ K).mpr (pick_t (by simp; omega) (need_mk (in_w hi) ⟨?_, ?_⟩))
      · rw [at_w hi]; rfl
      · rw [at_w hi, at_g hi]
        refine need_mk (in_g hi) ⟨rfl, ?_⟩
        rw [e1, es, ew]
        exact ⟨nn_int [_] _ _, h6⟩
    | cons k a =>
      have hlen : ((k :: a).map iv).length = (k :: a).length := List.length_map _
      refine (sho _ _ _ _ _ _ _ _ _ K).mpr (pick_t (by simp; omega) (need_mk (in_w hi) ⟨?_, ?_⟩))
      · rw [at_w hi]; rfl
      · rw [at_w hi, at_g hi]
        refine need_mk (in_g hi) ⟨rfl, pick_f (ble_ss _) (need_mk (ble_big8 _ (by omega)) (need_mk (ble_len hlen) ?_))⟩
        rw [e1, es, ew, take_ok hlen]
        have e4 : (k :: a).map iv ++ [Value.int .i64 (min (ws.getD i (0, 0)).1 ((ws.getD i (0, 0)).2 * l))] = (k :: a ++ [min (ws.getD i (0, 0)).1 ((ws.getD i (0, 0)).2 * l)]).map iv := by simp [iv]
        rw [e4]
        have ev : outV (k :: a ++ [min (ws.getD i (0, 0)).1 ((ws.getD i (0, 0)).2 * l)]) = .slice (some ⟨0, 0, none⟩) ((k :: a).length + 1) ((k :: a).length + 1) := by simp [outV]
        rw [ev] at h6
        exact ⟨nn_int _ _ _, h6⟩
theorem one10 : (loopAt (codeOf Tryz.f10) 4).length = 1 := by kernel_rfl
theorem some10 : Tryz.f10.body.isSome = true := by kernel_rfl
theorem sh_ex {ws : List (Int × Int)} (hw : OkW ws) (hl : ws.length ≤ 100) {l : Int} (hl0 : 0 ≤ l) (hl1 : l ≤ 1000000000) (K : AExit → List Value → AH → Prop) (hK : K (.exit 0) [outV (shL ws l), .int .i64 (sumL (shL ws l))] (outH (shL ws l))) :
    ∃ R, iter 0 Tryz.prog SF0 [] noHooks 300 38 [1, 2, 8, 9, 13, 14, 15] [0] [8, 9] [0] (oneLoop (codeOf Tryz.f10) 4) R [fz ⟨gV ws⟩, .int .i64 l, .slice none 0 0, .int .i64 0, fz ⟨wV ws⟩, .int .i64 (ws.length : Int), .int .i64 0] h0 K :=
  ⟨_, sh_loop hw hl hl0 hl1 K ws.length 0 [] 0 (by omega) rfl (by omega) (by omega) (by simpa using hK)⟩
theorem sh_fn {ws : List (Int × Int)} (hw : OkW ws) (hl : ws.length ≤ 100) (hne : ws ≠ []) {l : Int} (hl0 : 0 ≤ l) (hl1 : l ≤ 1000000000) :
    FnOK 0 Tryz.prog 10 ⟨[fz ⟨wV ws⟩, fz ⟨gV ws⟩, .int .i64 l]⟩ h0 (fun v g => v = .tuple ⟨[.slice (some ⟨0, 0, none⟩) ws.length ws.length, .int .i64 (sumL (shL ws l))]⟩ ∧ g.get 0 = some (.cells ⟨(shL ws l).map iv⟩ 3 (0, 0))) := by
  have e : outV (shL ws l) = .slice (some ⟨0, 0, none⟩) ws.length ws.length ∧ outH (shL ws l) = blkI (shL ws l) := by
    cases ws with
    | nil => exact (hne rfl).elim
    | cons p ws => exact ⟨by simp [shL, outV], rfl⟩
  have hC : LSpec 0 Tryz.prog 38 (oneLoop (codeOf Tryz.f10) 4) (hookLS 0 38 [1, 2, 8, 9, 13, 14, 15] [0] [8, 9] (fun vals h K => (vals = [fz ⟨gV ws⟩, .int .i64 l, .slice none 0 0, .int .i64 0, fz ⟨wV ws⟩, .int .i64 (ws.length : Int), .int .i64 0] ∧ h = h0) ∧
      K (.exit 0) [.slice (some ⟨0, 0, none⟩) ws.length ws.length, .int .i64 (sumL (shL ws l))] (⟨1, 1, [(0, .cells ⟨(shL ws l).map iv⟩ 3 (0, 0))]⟩ : AH))) := by
    refine hook_ok (G := []) (L := noHooks) (f := 300) (sameX := [0]) SF0_ok mixed (by decide) (loops_none _ _ _ _) ?_
    rintro vals h K ⟨⟨rfl, rfl⟩, hK⟩
    exact sh_ex hw hl hl0 hl1 K (by rw [e.1, e.2]; exact hK)
  refine FnOK.ttree SF0_ok mixed Tryz.func10 some10 (loops_one one10 hC) (shf (wV ws) (gV ws) ((shL ws l).map iv) ws.length l (sumL (shL ws l)) (fun vals h => vals = [fz ⟨gV ws⟩, .int .i64 l, .slice none 0 0, .int .i64 0, fz ⟨wV ws⟩, .int .i64 (ws.length : Int), .int .i64 0] ∧ h = h0)
    (fun v o => v = .tuple ⟨[.slice (some ⟨0, 0, none⟩) ws.length ws.length, .int .i64 (sumL (shL ws l))]⟩ ∧ o = some (.cells ⟨(shL ws l).map iv⟩ 3 (0, 0)))) ?_
  exact ⟨⟨by simp [wV, fz], rfl⟩, rfl, rfl⟩

def isI : Value → Bool
  | .int .i64 _ => true
  | _ => false
/-- Wants and weights in pairs. -/
def zipI (xs ys : List Value) : List (Int × Int) := (xs.map toInt).zip (ys.map toInt)
def okP (p : Int × Int) : Bool := decide (0 ≤ p.1) && decide (p.1 ≤ 1000) && decide (1 ≤ p.2) && decide (p.2 ≤ 1000)
/-- Whether wants and weights are right. -/
def okW (xs ys : List Value) : Bool := xs.all isI && ys.all isI && Nat.beq xs.length ys.length && Nat.ble 1 xs.length && Nat.ble xs.length 100 && (zipI xs ys).all okP
theorem isI_all : ∀ {xs : List Value}, xs.all isI = true → (xs.map toInt).map iv = xs
  | [], _ => rfl
  | v :: l, h => by
    simp only [List.all_cons, Bool.and_eq_true] at h
    simp only [List.map_cons, isI_all h.2]
    congr 1
    have h1 := h.1
    unfold isI at h1
    split at h1
    · rfl
    · cases h1
theorem zip_fst : ∀ (a b : List Int), a.length = b.length → wV (a.zip b) = a.map iv ∧ gV (a.zip b) = b.map iv
  | [], [], _ => ⟨rfl, rfl⟩
  | x :: a, y :: b, h => by
    obtain ⟨h1, h2⟩ := zip_fst a b (by simpa using h)
    simp only [wV, gV, List.zip_cons_cons, List.map_cons] at h1 h2 ⊢
    rw [h1, h2]
    exact ⟨rfl, rfl⟩
theorem okW_ok {xs ys : List Value} (h : okW xs ys = true) : xs = wV (zipI xs ys) ∧ ys = gV (zipI xs ys) ∧ OkW (zipI xs ys) ∧ (zipI xs ys).length ≤ 100 ∧ zipI xs ys ≠ [] ∧ (zipI xs ys).length = xs.length := by
  unfold okW at h
  simp only [Bool.and_eq_true, Nat.ble_eq] at h
  obtain ⟨⟨⟨⟨⟨h1, h2⟩, h3⟩, h4⟩, h5⟩, h6⟩ := h
  have h3 := Nat.eq_of_beq_eq_true h3
  obtain ⟨e1, e2⟩ := zip_fst (xs.map toInt) (ys.map toInt) (by simp [h3])
  have hlen : (zipI xs ys).length = xs.length := by simp [zipI, h3]
  refine ⟨(isI_all h1).symm.trans e1.symm, (isI_all h2).symm.trans e2.symm, fun p hp => ?_, by omega, fun e => ?_, hlen⟩
  · have := List.all_eq_true.1 h6 p hp
    simp only [okP, Bool.and_eq_true, decide_eq_true_eq] at this
    omega
  · rw [e] at hlen; simp at hlen; omega
def shS (xs ys : List Value) (l : Int) : Int := sumL (shL (zipI xs ys) l)
def shC (xs ys : List Value) (l : Int) : List Value := (shL (zipI xs ys) l).map iv
def spFlt (f : FuncId) (args : Array Value) (h : AH) : Option (Bool × Value × AH) :=
  cond (Nat.beq f 9) (match args with
    | ⟨[.int .i64 m, .func (.yield 0) ⟨xs⟩ ⟨[]⟩, .func (.yield 0) ⟨ys⟩ ⟨[]⟩]⟩ => some (okW xs ys && decide (0 ≤ m) && decide (m ≤ 1000), .int .i64 0, h)
    | _ => none) none
theorem spFlt_ok : SpOK spFlt := by
  intro f args h v h' hs
  unfold spFlt at hs
  obtain ⟨hf, hs2⟩ := cond_some hs
  clear hs
  have := Nat.eq_of_beq_eq_true hf
  subst this
  split at hs2
  · injection hs2 with hs
    injection hs with hb hs
    injection hs with hv hh
    subst hv hh
    simp only [Bool.and_eq_true, decide_eq_true_eq] at hb
    obtain ⟨e1, e2, e3, e4, e5, e6⟩ := okW_ok hb.1.1
    have hF := flt_fn e3 e4 _ hb.1.2 hb.2
    rw [← e1, ← e2] at hF
    exact ⟨FnOK.pure hF rfl rfl h, Nat.le_refl _⟩
  · cases hs2
def spShares (f : FuncId) (args : Array Value) (h : AH) : Option (Bool × Value × AH) :=
  cond (Nat.beq f 10) (match args with
    | ⟨[.func (.yield 0) ⟨xs⟩ ⟨[]⟩, .func (.yield 0) ⟨ys⟩ ⟨[]⟩, .int .i64 l]⟩ => some (okW xs ys && decide (0 ≤ l) && decide (l ≤ 1000000000), .tuple ⟨[.slice (some ⟨h.next, 0, none⟩) xs.length xs.length, .int .i64 (shS xs ys l)]⟩, h.push (.cells ⟨shC xs ys l⟩ 3 (0, 0)))
    | _ => none) none
theorem spShares_ok : SpOK spShares := by
  intro f args h v h' hs
  unfold spShares at hs
  obtain ⟨hf, hs2⟩ := cond_some hs
  clear hs
  have := Nat.eq_of_beq_eq_true hf
  subst this
  split at hs2
  · rename_i xs ys l
    injection hs2 with hs
    injection hs with hb hs
    injection hs with hv hh
    subst hv hh
    simp only [Bool.and_eq_true, decide_eq_true_eq] at hb
    obtain ⟨e1, e2, e3, e4, e5, e6⟩ := okW_ok hb.1.1
    refine ⟨?_, by simp [AH.push]⟩
    refine FnOK.new1 (u := .tuple ⟨[.slice (some ⟨0, 0, none⟩) xs.length xs.length, .int .i64 (shS xs ys l)]⟩) (cs := shC xs ys l) (t := 3) (fr := (0, 0)) (H := h) (args := [fz ⟨xs⟩, fz ⟨ys⟩, .int .i64 l]) ?_ rfl ?_ ?_
    · have := sh_fn e3 e4 e5 hb.1.2 hb.2
      rw [← e1, ← e2, e6] at this
      exact this.mono fun v g ⟨q1, q2⟩ => ⟨0, by rw [q1]; rfl, q2⟩
    · intro x hx
      obtain ⟨n, _, rfl⟩ := List.mem_map.1 hx
      rfl
    · rfl
  · cases hs2
end Go.Proofs.YtnkobmgkndndfaaGreatDoor
