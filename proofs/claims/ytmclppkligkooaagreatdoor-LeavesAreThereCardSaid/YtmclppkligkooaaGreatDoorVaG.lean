/-
  Values: what is wrong with one: nothing.
-/
import Derived.Test.YtmclppkligkooaaGreatDoorVaF
namespace Go.Proofs.YtmclppkligkooaaGreatDoor
open Go.Ev Go.RowKit

def Vs (x : Value) : Prop := ∀ H, CallOK Tryz.prog 34 ⟨[x]⟩ H (.bool true) H
theorem spVs_ok {x : Value} {ok : Bool} (hF : ok = true → Vs x) : SpOK (spVs x ok) := by
  intro f args h v h' hs
  unfold spVs at hs
  obtain ⟨hf, hs2⟩ := cond_some hs
  clear hs
  have := Nat.eq_of_beq_eq_true hf
  subst this
  split at hs2
  · rename_i y
    injection hs2 with hs
    injection hs with hb hs
    injection hs with hv hh
    subst hv hh
    rw [Bool.and_eq_true] at hb
    have hy := eqV_eq hb.1
    subst hy
    exact ⟨hF hb.2 h, Nat.le_refl _⟩
  · cases hs2
theorem someFT : Tryz.f30.body.isSome = true := by kernel_rfl
theorem oneFT12 : (loopAt (codeOf Tryz.f30) 12).length = 1 := by kernel_rfl
theorem oneFT21 : (loopAt (codeOf Tryz.f30) 21).length = 1 := by kernel_rfl
theorem oneFT28 : (loopAt (codeOf Tryz.f30) 28).length = 1 := by kernel_rfl
set_option maxRecDepth 20000 in
theorem fv_k0  (hs : Vs (.string ⟨#[]⟩)) (hx : ∀ x ∈ ([] : List Value), x = e6 x ∧ Fv x) (hlx : ([] : List Value).length ≤ 5000) (hy : ∀ x ∈ ([] : List Value), x = e7 x ∧ Fv (m6 x)) (hly : ([] : List Value).length ≤ 5000)
    (hN : ∀ i : Nat, i < ([] : List Value).length → elV [] (i : Int) = e7 (elV [] (i : Int)) ∧ Nf (.string (elS [] (i : Int)))) (ho : ∀ i : Nat, i + 1 < ([] : List Value).length → leS (elS [] ((i + 1 : Nat) : Int)) (elS [] (i : Int)) = false) :
    FnOK 0 Tryz.prog 30 ⟨[vV 0 false 0 ⟨#[]⟩ [] []]⟩ h0 (fun v _ => v = .int .i64 0) := by
  have hA : LSpec 0 Tryz.prog 90 (oneLoop (codeOf Tryz.f30) 12) (hookLS 0 90 [1, 35, 36, 37] [0] [1, 2] (fun vals h K => (vals = [p0V, fz ⟨[]⟩, .int .i64 ((Array.mk (α := Value) []).size : Int), .int .i64 0] ∧ h = fnH 0 false 0 ⟨#[]⟩ [] []) ∧ K (.exit 1) [p0V, anyV] (fnH 0 false 0 ⟨#[]⟩ [] []))) := by
    refine hookE_ok (sameX := [0]) mixed (by decide) ?_
    rintro vals h K ⟨⟨rfl, rfl⟩, hK⟩
    exact ⟨_, fvN_loop _ _ _ _ _ ([] : List Value) K hly hN ho hK ([] : List Value).length 0 (by omega)⟩
  have hB : LSpec 0 Tryz.prog 90 (oneLoop (codeOf Tryz.f30) 21) (hookLS 0 90 [1, 64, 65, 66] [0] [1, 2] (fun vals h K => (vals = [p0V, fz ⟨[]⟩, .int .i64 ((Array.mk (α := Value) []).size : Int), .int .i64 0] ∧ h = fnH 0 false 0 ⟨#[]⟩ [] []) ∧ K (.exit 3) [p0V, anyV] (fnH 0 false 0 ⟨#[]⟩ [] []))) := by
    refine hookE_ok (sameX := [0]) mixed (by decide) ?_
    rintro vals h K ⟨⟨rfl, rfl⟩, hK⟩
    exact ⟨_, fv1_loop (nnX _ _ _ _ _ _) K ([] : List Value) hlx _ 0 rfl (by simp) hx hK⟩
  have hC : LSpec 0 Tryz.prog 90 (oneLoop (codeOf Tryz.f30) 28) (hookLS 0 90 [77, 78, 79] [] [2] (fun vals h K => (vals = [fz ⟨[]⟩, .int .i64 ((Array.mk (α := Value) []).size : Int), .int .i64 0] ∧ h = h0) ∧ K (.exit 5) [anyV] h0)) := by
    refine hookE_ok (sameX := []) mixed (by decide) ?_
    rintro vals h K ⟨⟨rfl, rfl⟩, hK⟩
    exact ⟨_, fv2_loop (bx := []) (fun v hv => by simp at hv) K ([] : List Value) hly _ 0 rfl (by simp) hy hK⟩
  have e := fh0 (.string ⟨#[]⟩) true  (fun vals h => vals = [p0V, fz ⟨[]⟩, .int .i64 ((Array.mk (α := Value) []).size : Int), .int .i64 0] ∧ h = fnH 0 false 0 ⟨#[]⟩ [] []) (fun vals h => vals = [p0V, fz ⟨[]⟩, .int .i64 ((Array.mk (α := Value) []).size : Int), .int .i64 0] ∧ h = fnH 0 false 0 ⟨#[]⟩ [] [])
    (fun vals h => vals = [fz ⟨[]⟩, .int .i64 ((Array.mk (α := Value) []).size : Int), .int .i64 0] ∧ h = h0) (fun v => v = .int .i64 0)
  refine FnOK.ttree (spVs_ok fun _ => hs).cfg mixed Tryz.func30 someFT (loops_or (loops_one oneFT12 hA) (loops_or (loops_one oneFT21 hB) (loops_one oneFT28 hC))) e ?_
  clear e hA hB hC
  exact need_mk (by rw [eqV_self]; rfl) ⟨nnX _ _ _ _ _ _, ⟨rfl, rfl⟩, nnX _ _ _ _ _ _, ⟨rfl, rfl⟩, ⟨rfl, rfl⟩, rfl⟩
set_option maxRecDepth 20000 in
theorem fv_k1 (f : Bool) (hs : Vs (.string ⟨#[]⟩)) (hx : ∀ x ∈ ([] : List Value), x = e6 x ∧ Fv x) (hlx : ([] : List Value).length ≤ 5000) (hy : ∀ x ∈ ([] : List Value), x = e7 x ∧ Fv (m6 x)) (hly : ([] : List Value).length ≤ 5000)
    (hN : ∀ i : Nat, i < ([] : List Value).length → elV [] (i : Int) = e7 (elV [] (i : Int)) ∧ Nf (.string (elS [] (i : Int)))) (ho : ∀ i : Nat, i + 1 < ([] : List Value).length → leS (elS [] ((i + 1 : Nat) : Int)) (elS [] (i : Int)) = false) :
    FnOK 0 Tryz.prog 30 ⟨[vV 1 f 0 ⟨#[]⟩ [] []]⟩ h0 (fun v _ => v = .int .i64 0) := by
  have hA : LSpec 0 Tryz.prog 90 (oneLoop (codeOf Tryz.f30) 12) (hookLS 0 90 [1, 35, 36, 37] [0] [1, 2] (fun vals h K => (vals = [p0V, fz ⟨[]⟩, .int .i64 ((Array.mk (α := Value) []).size : Int), .int .i64 0] ∧ h = fnH 1 f 0 ⟨#[]⟩ [] []) ∧ K (.exit 1) [p0V, anyV] (fnH 1 f 0 ⟨#[]⟩ [] []))) := by
    refine hookE_ok (sameX := [0]) mixed (by decide) ?_
    rintro vals h K ⟨⟨rfl, rfl⟩, hK⟩
    exact ⟨_, fvN_loop _ _ _ _ _ ([] : List Value) K hly hN ho hK ([] : List Value).length 0 (by omega)⟩
  have hB : LSpec 0 Tryz.prog 90 (oneLoop (codeOf Tryz.f30) 21) (hookLS 0 90 [1, 64, 65, 66] [0] [1, 2] (fun vals h K => (vals = [p0V, fz ⟨[]⟩, .int .i64 ((Array.mk (α := Value) []).size : Int), .int .i64 0] ∧ h = fnH 1 f 0 ⟨#[]⟩ [] []) ∧ K (.exit 3) [p0V, anyV] (fnH 1 f 0 ⟨#[]⟩ [] []))) := by
    refine hookE_ok (sameX := [0]) mixed (by decide) ?_
    rintro vals h K ⟨⟨rfl, rfl⟩, hK⟩
    exact ⟨_, fv1_loop (nnX _ _ _ _ _ _) K ([] : List Value) hlx _ 0 rfl (by simp) hx hK⟩
  have hC : LSpec 0 Tryz.prog 90 (oneLoop (codeOf Tryz.f30) 28) (hookLS 0 90 [77, 78, 79] [] [2] (fun vals h K => (vals = [fz ⟨[]⟩, .int .i64 ((Array.mk (α := Value) []).size : Int), .int .i64 0] ∧ h = h0) ∧ K (.exit 5) [anyV] h0)) := by
    refine hookE_ok (sameX := []) mixed (by decide) ?_
    rintro vals h K ⟨⟨rfl, rfl⟩, hK⟩
    exact ⟨_, fv2_loop (bx := []) (fun v hv => by simp at hv) K ([] : List Value) hly _ 0 rfl (by simp) hy hK⟩
  have e := fh1 (.string ⟨#[]⟩) true f (fun vals h => vals = [p0V, fz ⟨[]⟩, .int .i64 ((Array.mk (α := Value) []).size : Int), .int .i64 0] ∧ h = fnH 1 f 0 ⟨#[]⟩ [] []) (fun vals h => vals = [p0V, fz ⟨[]⟩, .int .i64 ((Array.mk (α := Value) []).size : Int), .int .i64 0] ∧ h = fnH 1 f 0 ⟨#[]⟩ [] [])
    (fun vals h => vals = [fz ⟨[]⟩, .int .i64 ((Array.mk (α := Value) []).size : Int), .int .i64 0] ∧ h = h0) (fun v => v = .int .i64 0)
  refine FnOK.ttree (spVs_ok fun _ => hs).cfg mixed Tryz.func30 someFT (loops_or (loops_one oneFT12 hA) (loops_or (loops_one oneFT21 hB) (loops_one oneFT28 hC))) e ?_
  clear e hA hB hC
  exact need_mk (by rw [eqV_self]; rfl) ⟨nnX _ _ _ _ _ _, ⟨rfl, rfl⟩, nnX _ _ _ _ _ _, ⟨rfl, rfl⟩, ⟨rfl, rfl⟩, rfl⟩
set_option maxRecDepth 20000 in
theorem fv_k2 (n : Int) (hs : Vs (.string ⟨#[]⟩)) (h1 : -1000000000000000 ≤ n) (h2 : n ≤ 1000000000000000) (hx : ∀ x ∈ ([] : List Value), x = e6 x ∧ Fv x) (hlx : ([] : List Value).length ≤ 5000) (hy : ∀ x ∈ ([] : List Value), x = e7 x ∧ Fv (m6 x)) (hly : ([] : List Value).length ≤ 5000)
    (hN : ∀ i : Nat, i < ([] : List Value).length → elV [] (i : Int) = e7 (elV [] (i : Int)) ∧ Nf (.string (elS [] (i : Int)))) (ho : ∀ i : Nat, i + 1 < ([] : List Value).length → leS (elS [] ((i + 1 : Nat) : Int)) (elS [] (i : Int)) = false) :
    FnOK 0 Tryz.prog 30 ⟨[vV 2 false n ⟨#[]⟩ [] []]⟩ h0 (fun v _ => v = .int .i64 0) := by
  have hA : LSpec 0 Tryz.prog 90 (oneLoop (codeOf Tryz.f30) 12) (hookLS 0 90 [1, 35, 36, 37] [0] [1, 2] (fun vals h K => (vals = [p0V, fz ⟨[]⟩, .int .i64 ((Array.mk (α := Value) []).size : Int), .int .i64 0] ∧ h = fnH 2 false n ⟨#[]⟩ [] []) ∧ K (.exit 1) [p0V, anyV] (fnH 2 false n ⟨#[]⟩ [] []))) := by
    refine hookE_ok (sameX := [0]) mixed (by decide) ?_
    rintro vals h K ⟨⟨rfl, rfl⟩, hK⟩
    exact ⟨_, fvN_loop _ _ _ _ _ ([] : List Value) K hly hN ho hK ([] : List Value).length 0 (by omega)⟩
  have hB : LSpec 0 Tryz.prog 90 (oneLoop (codeOf Tryz.f30) 21) (hookLS 0 90 [1, 64, 65, 66] [0] [1, 2] (fun vals h K => (vals = [p0V, fz ⟨[]⟩, .int .i64 ((Array.mk (α := Value) []).size : Int), .int .i64 0] ∧ h = fnH 2 false n ⟨#[]⟩ [] []) ∧ K (.exit 3) [p0V, anyV] (fnH 2 false n ⟨#[]⟩ [] []))) := by
    refine hookE_ok (sameX := [0]) mixed (by decide) ?_
    rintro vals h K ⟨⟨rfl, rfl⟩, hK⟩
    exact ⟨_, fv1_loop (nnX _ _ _ _ _ _) K ([] : List Value) hlx _ 0 rfl (by simp) hx hK⟩
  have hC : LSpec 0 Tryz.prog 90 (oneLoop (codeOf Tryz.f30) 28) (hookLS 0 90 [77, 78, 79] [] [2] (fun vals h K => (vals = [fz ⟨[]⟩, .int .i64 ((Array.mk (α := Value) []).size : Int), .int .i64 0] ∧ h = h0) ∧ K (.exit 5) [anyV] h0)) := by
    refine hookE_ok (sameX := []) mixed (by decide) ?_
    rintro vals h K ⟨⟨rfl, rfl⟩, hK⟩
    exact ⟨_, fv2_loop (bx := []) (fun v hv => by simp at hv) K ([] : List Value) hly _ 0 rfl (by simp) hy hK⟩
  have e := fh2 (.string ⟨#[]⟩) true n (fun vals h => vals = [p0V, fz ⟨[]⟩, .int .i64 ((Array.mk (α := Value) []).size : Int), .int .i64 0] ∧ h = fnH 2 false n ⟨#[]⟩ [] []) (fun vals h => vals = [p0V, fz ⟨[]⟩, .int .i64 ((Array.mk (α := Value) []).size : Int), .int .i64 0] ∧ h = fnH 2 false n ⟨#[]⟩ [] [])
    (fun vals h => vals = [fz ⟨[]⟩, .int .i64 ((Array.mk (α := Value) []).size : Int), .int .i64 0] ∧ h = h0) (fun v => v = .int .i64 0)
  refine FnOK.ttree (spVs_ok fun _ => hs).cfg mixed Tryz.func30 someFT (loops_or (loops_one oneFT12 hA) (loops_or (loops_one oneFT21 hB) (loops_one oneFT28 hC))) e ?_
  clear e hA hB hC
  refine pick_f (decide_eq_false (by omega)) (pick_f (show decide (n > 1000000000000000) = false from decide_eq_false (by omega)) ?_)
  exact need_mk (by rw [eqV_self]; rfl) ⟨nnX _ _ _ _ _ _, ⟨rfl, rfl⟩, nnX _ _ _ _ _ _, ⟨rfl, rfl⟩, ⟨rfl, rfl⟩, rfl⟩
set_option maxRecDepth 20000 in
theorem fv_k3 (s : ByteArray) (hs : Vs (.string s)) (h1 : s.size ≤ 5000) (hx : ∀ x ∈ ([] : List Value), x = e6 x ∧ Fv x) (hlx : ([] : List Value).length ≤ 5000) (hy : ∀ x ∈ ([] : List Value), x = e7 x ∧ Fv (m6 x)) (hly : ([] : List Value).length ≤ 5000)
    (hN : ∀ i : Nat, i < ([] : List Value).length → elV [] (i : Int) = e7 (elV [] (i : Int)) ∧ Nf (.string (elS [] (i : Int)))) (ho : ∀ i : Nat, i + 1 < ([] : List Value).length → leS (elS [] ((i + 1 : Nat) : Int)) (elS [] (i : Int)) = false) :
    FnOK 0 Tryz.prog 30 ⟨[vV 3 false 0 s [] []]⟩ h0 (fun v _ => v = .int .i64 0) := by
  have hA : LSpec 0 Tryz.prog 90 (oneLoop (codeOf Tryz.f30) 12) (hookLS 0 90 [1, 35, 36, 37] [0] [1, 2] (fun vals h K => (vals = [p0V, fz ⟨[]⟩, .int .i64 ((Array.mk (α := Value) []).size : Int), .int .i64 0] ∧ h = fnH 3 false 0 s [] []) ∧ K (.exit 1) [p0V, anyV] (fnH 3 false 0 s [] []))) := by
    refine hookE_ok (sameX := [0]) mixed (by decide) ?_
    rintro vals h K ⟨⟨rfl, rfl⟩, hK⟩
    exact ⟨_, fvN_loop _ _ _ _ _ ([] : List Value) K hly hN ho hK ([] : List Value).length 0 (by omega)⟩
  have hB : LSpec 0 Tryz.prog 90 (oneLoop (codeOf Tryz.f30) 21) (hookLS 0 90 [1, 64, 65, 66] [0] [1, 2] (fun vals h K => (vals = [p0V, fz ⟨[]⟩, .int .i64 ((Array.mk (α := Value) []).size : Int), .int .i64 0] ∧ h = fnH 3 false 0 s [] []) ∧ K (.exit 3) [p0V, anyV] (fnH 3 false 0 s [] []))) := by
    refine hookE_ok (sameX := [0]) mixed (by decide) ?_
    rintro vals h K ⟨⟨rfl, rfl⟩, hK⟩
    exact ⟨_, fv1_loop (nnX _ _ _ _ _ _) K ([] : List Value) hlx _ 0 rfl (by simp) hx hK⟩
  have hC : LSpec 0 Tryz.prog 90 (oneLoop (codeOf Tryz.f30) 28) (hookLS 0 90 [77, 78, 79] [] [2] (fun vals h K => (vals = [fz ⟨[]⟩, .int .i64 ((Array.mk (α := Value) []).size : Int), .int .i64 0] ∧ h = h0) ∧ K (.exit 5) [anyV] h0)) := by
    refine hookE_ok (sameX := []) mixed (by decide) ?_
    rintro vals h K ⟨⟨rfl, rfl⟩, hK⟩
    exact ⟨_, fv2_loop (bx := []) (fun v hv => by simp at hv) K ([] : List Value) hly _ 0 rfl (by simp) hy hK⟩
  have e := fh3 (.string s) true s (fun vals h => vals = [p0V, fz ⟨[]⟩, .int .i64 ((Array.mk (α := Value) []).size : Int), .int .i64 0] ∧ h = fnH 3 false 0 s [] []) (fun vals h => vals = [p0V, fz ⟨[]⟩, .int .i64 ((Array.mk (α := Value) []).size : Int), .int .i64 0] ∧ h = fnH 3 false 0 s [] [])
    (fun vals h => vals = [fz ⟨[]⟩, .int .i64 ((Array.mk (α := Value) []).size : Int), .int .i64 0] ∧ h = h0) (fun v => v = .int .i64 0)
  refine FnOK.ttree (spVs_ok fun _ => hs).cfg mixed Tryz.func30 someFT (loops_or (loops_one oneFT12 hA) (loops_or (loops_one oneFT21 hB) (loops_one oneFT28 hC))) e ?_
  clear e hA hB hC
  refine pick_f (decide_eq_false (by omega)) ?_
  exact need_mk (by rw [eqV_self]; rfl) ⟨nnX _ _ _ _ _ _, ⟨rfl, rfl⟩, nnX _ _ _ _ _ _, ⟨rfl, rfl⟩, ⟨rfl, rfl⟩, rfl⟩
set_option maxRecDepth 20000 in
theorem fv_k4 (xs : List Value) (hs : Vs (.string ⟨#[]⟩)) (hx : ∀ x ∈ (xs : List Value), x = e6 x ∧ Fv x) (hlx : (xs : List Value).length ≤ 5000) (hy : ∀ x ∈ ([] : List Value), x = e7 x ∧ Fv (m6 x)) (hly : ([] : List Value).length ≤ 5000)
    (hN : ∀ i : Nat, i < ([] : List Value).length → elV [] (i : Int) = e7 (elV [] (i : Int)) ∧ Nf (.string (elS [] (i : Int)))) (ho : ∀ i : Nat, i + 1 < ([] : List Value).length → leS (elS [] ((i + 1 : Nat) : Int)) (elS [] (i : Int)) = false) :
    FnOK 0 Tryz.prog 30 ⟨[vV 4 false 0 ⟨#[]⟩ xs []]⟩ h0 (fun v _ => v = .int .i64 0) := by
  have hA : LSpec 0 Tryz.prog 90 (oneLoop (codeOf Tryz.f30) 12) (hookLS 0 90 [1, 35, 36, 37] [0] [1, 2] (fun vals h K => (vals = [p0V, fz ⟨[]⟩, .int .i64 ((Array.mk (α := Value) []).size : Int), .int .i64 0] ∧ h = fnH 4 false 0 ⟨#[]⟩ xs []) ∧ K (.exit 1) [p0V, anyV] (fnH 4 false 0 ⟨#[]⟩ xs []))) := by
    refine hookE_ok (sameX := [0]) mixed (by decide) ?_
    rintro vals h K ⟨⟨rfl, rfl⟩, hK⟩
    exact ⟨_, fvN_loop _ _ _ _ _ ([] : List Value) K hly hN ho hK ([] : List Value).length 0 (by omega)⟩
  have hB : LSpec 0 Tryz.prog 90 (oneLoop (codeOf Tryz.f30) 21) (hookLS 0 90 [1, 64, 65, 66] [0] [1, 2] (fun vals h K => (vals = [p0V, fz ⟨xs⟩, .int .i64 ((Array.mk (α := Value) xs).size : Int), .int .i64 0] ∧ h = fnH 4 false 0 ⟨#[]⟩ xs []) ∧ K (.exit 3) [p0V, anyV] (fnH 4 false 0 ⟨#[]⟩ xs []))) := by
    refine hookE_ok (sameX := [0]) mixed (by decide) ?_
    rintro vals h K ⟨⟨rfl, rfl⟩, hK⟩
    exact ⟨_, fv1_loop (nnX _ _ _ _ _ _) K (xs : List Value) hlx _ 0 rfl (by simp) hx hK⟩
  have hC : LSpec 0 Tryz.prog 90 (oneLoop (codeOf Tryz.f30) 28) (hookLS 0 90 [77, 78, 79] [] [2] (fun vals h K => (vals = [fz ⟨[]⟩, .int .i64 ((Array.mk (α := Value) []).size : Int), .int .i64 0] ∧ h = h0) ∧ K (.exit 5) [anyV] h0)) := by
    refine hookE_ok (sameX := []) mixed (by decide) ?_
    rintro vals h K ⟨⟨rfl, rfl⟩, hK⟩
    exact ⟨_, fv2_loop (bx := []) (fun v hv => by simp at hv) K ([] : List Value) hly _ 0 rfl (by simp) hy hK⟩
  have e := fh4 (.string ⟨#[]⟩) true xs (fun vals h => vals = [p0V, fz ⟨[]⟩, .int .i64 ((Array.mk (α := Value) []).size : Int), .int .i64 0] ∧ h = fnH 4 false 0 ⟨#[]⟩ xs []) (fun vals h => vals = [p0V, fz ⟨xs⟩, .int .i64 ((Array.mk (α := Value) xs).size : Int), .int .i64 0] ∧ h = fnH 4 false 0 ⟨#[]⟩ xs [])
    (fun vals h => vals = [fz ⟨[]⟩, .int .i64 ((Array.mk (α := Value) []).size : Int), .int .i64 0] ∧ h = h0) (fun v => v = .int .i64 0)
  refine FnOK.ttree (spVs_ok fun _ => hs).cfg mixed Tryz.func30 someFT (loops_or (loops_one oneFT12 hA) (loops_or (loops_one oneFT21 hB) (loops_one oneFT28 hC))) e ?_
  clear e hA hB hC
  exact need_mk (by rw [eqV_self]; rfl) ⟨nnX _ _ _ _ _ _, ⟨rfl, rfl⟩, nnX _ _ _ _ _ _, ⟨rfl, rfl⟩, ⟨rfl, rfl⟩, rfl⟩
set_option maxRecDepth 20000 in
theorem fv_k5 (ys : List Value) (hs : Vs (.string ⟨#[]⟩)) (hx : ∀ x ∈ ([] : List Value), x = e6 x ∧ Fv x) (hlx : ([] : List Value).length ≤ 5000) (hy : ∀ x ∈ (ys : List Value), x = e7 x ∧ Fv (m6 x)) (hly : (ys : List Value).length ≤ 5000)
    (hN : ∀ i : Nat, i < (ys : List Value).length → elV ys (i : Int) = e7 (elV ys (i : Int)) ∧ Nf (.string (elS ys (i : Int)))) (ho : ∀ i : Nat, i + 1 < (ys : List Value).length → leS (elS ys ((i + 1 : Nat) : Int)) (elS ys (i : Int)) = false) :
    FnOK 0 Tryz.prog 30 ⟨[vV 5 false 0 ⟨#[]⟩ [] ys]⟩ h0 (fun v _ => v = .int .i64 0) := by
  have hA : LSpec 0 Tryz.prog 90 (oneLoop (codeOf Tryz.f30) 12) (hookLS 0 90 [1, 35, 36, 37] [0] [1, 2] (fun vals h K => (vals = [p0V, fz ⟨ys⟩, .int .i64 ((Array.mk (α := Value) ys).size : Int), .int .i64 0] ∧ h = fnH 5 false 0 ⟨#[]⟩ [] ys) ∧ K (.exit 1) [p0V, anyV] (fnH 5 false 0 ⟨#[]⟩ [] ys))) := by
    refine hookE_ok (sameX := [0]) mixed (by decide) ?_
    rintro vals h K ⟨⟨rfl, rfl⟩, hK⟩
    exact ⟨_, fvN_loop _ _ _ _ _ (ys : List Value) K hly hN ho hK (ys : List Value).length 0 (by omega)⟩
  have hB : LSpec 0 Tryz.prog 90 (oneLoop (codeOf Tryz.f30) 21) (hookLS 0 90 [1, 64, 65, 66] [0] [1, 2] (fun vals h K => (vals = [p0V, fz ⟨[]⟩, .int .i64 ((Array.mk (α := Value) []).size : Int), .int .i64 0] ∧ h = fnH 5 false 0 ⟨#[]⟩ [] ys) ∧ K (.exit 3) [p0V, anyV] (fnH 5 false 0 ⟨#[]⟩ [] ys))) := by
    refine hookE_ok (sameX := [0]) mixed (by decide) ?_
    rintro vals h K ⟨⟨rfl, rfl⟩, hK⟩
    exact ⟨_, fv1_loop (nnX _ _ _ _ _ _) K ([] : List Value) hlx _ 0 rfl (by simp) hx hK⟩
  have hC : LSpec 0 Tryz.prog 90 (oneLoop (codeOf Tryz.f30) 28) (hookLS 0 90 [77, 78, 79] [] [2] (fun vals h K => (vals = [fz ⟨ys⟩, .int .i64 ((Array.mk (α := Value) ys).size : Int), .int .i64 0] ∧ h = h0) ∧ K (.exit 5) [anyV] h0)) := by
    refine hookE_ok (sameX := []) mixed (by decide) ?_
    rintro vals h K ⟨⟨rfl, rfl⟩, hK⟩
    exact ⟨_, fv2_loop (bx := []) (fun v hv => by simp at hv) K (ys : List Value) hly _ 0 rfl (by simp) hy hK⟩
  have e := fh5 (.string ⟨#[]⟩) true ys (fun vals h => vals = [p0V, fz ⟨ys⟩, .int .i64 ((Array.mk (α := Value) ys).size : Int), .int .i64 0] ∧ h = fnH 5 false 0 ⟨#[]⟩ [] ys) (fun vals h => vals = [p0V, fz ⟨[]⟩, .int .i64 ((Array.mk (α := Value) []).size : Int), .int .i64 0] ∧ h = fnH 5 false 0 ⟨#[]⟩ [] ys)
    (fun vals h => vals = [fz ⟨ys⟩, .int .i64 ((Array.mk (α := Value) ys).size : Int), .int .i64 0] ∧ h = h0) (fun v => v = .int .i64 0)
  refine FnOK.ttree (spVs_ok fun _ => hs).cfg mixed Tryz.func30 someFT (loops_or (loops_one oneFT12 hA) (loops_or (loops_one oneFT21 hB) (loops_one oneFT28 hC))) e ?_
  clear e hA hB hC
  exact need_mk (by rw [eqV_self]; rfl) ⟨nnX _ _ _ _ _ _, ⟨rfl, rfl⟩, nnX _ _ _ _ _ _, ⟨rfl, rfl⟩, ⟨rfl, rfl⟩, rfl⟩
end Go.Proofs.YtmclppkligkooaaGreatDoor
