/-
  Headers: Client: what it calls.
-/
import Derived.Test.YtfjfdemnnhfmoaaGreatDoorHoJ
import Derived.Test.YtfjfdemnnhfmoaaGreatDoorHoK
namespace Go.Ev
theorem hookR_ok {p : Nat} {P : Program} {m : Nat} {live same liveX : List Nat} {c : Code} {closed : List Value → AH → (AExit → List Value → AH → Prop) → Prop} (hsm : m ≤ 1000)
    (hcl : ∀ vals h K, closed vals h K → Tri p P c ⟨expand m live vals⟩ h (fun e τ' h' => ∃ vals', τ' = ⟨expand m liveX vals'⟩ ∧ K e vals' h')) : RSpec p P m c (hookLS p m live same liveX closed) := by
  intro t τ h K hr hs
  obtain ⟨vals, h2, hW, hc⟩ := normP_ok (P := P) hr hs
  refine Tri.weak hW ((hcl _ _ _ hc).mono ?_)
  rintro e τ' h' ⟨vals', rfl, hq⟩
  exact ⟨_, rep_st hsm liveX vals', hq⟩
end Go.Ev
namespace Go.Proofs.YtfjfdemnnhfmoaaGreatDoor
open Go.Ev Go.RowKit RecLaw PathLaw HopLaw

/-! Parts with a result that is a block -/
theorem pt_fnX {vs : List (List UInt8)} (hv : ∀ v ∈ vs, v.length ≤ 1000) (hl : vs.length ≤ 50) : FnOK 0 Tryz.prog 60 ⟨[fz ⟨vs.map strV⟩]⟩ h0 (fun v g => v = dV (partsB vs) ∧ (partsB vs ≠ [] → g.get 0 = some (.cells ⟨(partsB vs).map strV⟩ 9 (0, 0)))) := by
  have hsp : LSpec 0 Tryz.prog 32 (oneLoop (codeOf Tryz.f60) 3) (hookLS 0 32 [3, 8, 9, 10] [0] [3] (fun vals h K => (vals = [.slice none 0 0, fz ⟨vs.map strV⟩, .int .i64 (vs.length : Int), .int .i64 0] ∧ h = h0) ∧ K (.exit 0) [dV (partsB vs)] (dH (partsB vs)))) := by
    refine hookE_ok (sameX := [0]) mixed (by decide) ?_
    rintro vals h K ⟨⟨rfl, rfl⟩, hK⟩
    exact ⟨_, pt_out hv hl K vs.length 0 [] (by omega) (by simp; omega) (by rw [List.drop_zero, List.nil_append]; exact hK)⟩
  have hlen : (((Array.mk (vs.map strV)).size : Nat) : Int) = (vs.length : Int) := by
    show ((vs.map strV).length : Int) = _
    rw [List.length_map]
  generalize hg : partsB vs = E at hsp ⊢
  cases E with
  | nil => exact FnOK.ttree SPt_ok mixed Tryz.func60 somePT (loops_one oneO hsp) (ptfN (vs.map strV) _ _) ⟨⟨by rw [hlen], rfl⟩, rfl, fun h => absurd rfl h⟩
  | cons e E => exact FnOK.ttree SPt_ok mixed Tryz.func60 somePT (loops_one oneO hsp) (ptfB ((e :: E).map strV) (vs.map strV) (e :: E).length _ _) ⟨⟨by rw [hlen], rfl⟩, rfl, fun _ => rfl⟩
noncomputable def ptS (vs : List Value) : List (List UInt8) := partsB (blS vs)
/-- e: whether there are none. -/
noncomputable def spPtX (e : Bool) (f : FuncId) (args : Array Value) (h : AH) : Option (Bool × Value × AH) :=
  cond (Nat.beq f 60) (match args with
    | ⟨[.func (.yield 0) ⟨vs⟩ ⟨[]⟩]⟩ => cond e (some (okPt vs && (ptS vs).isEmpty, .slice none 0 0, h))
      (some (okPt vs && !(ptS vs).isEmpty, .slice (some ⟨h.next, 0, none⟩) (ptS vs).length (ptS vs).length, h.push (.cells ⟨(ptS vs).map strV⟩ 9 (0, 0))))
    | _ => none) none
theorem spPtX_ok (e : Bool) : SpOK (spPtX e) := by
  intro f args h v h' hs
  unfold spPtX at hs
  obtain ⟨hf, hs2⟩ := cond_some hs
  clear hs
  have := Nat.eq_of_beq_eq_true hf
  subst this
  split at hs2
  · rename_i vs
    cases e with
    | true =>
      injection hs2 with hs
      injection hs with hb hs
      injection hs with hv hh
      subst hv hh
      rw [Bool.and_eq_true, List.isEmpty_iff] at hb
      obtain ⟨hb, he⟩ := hb
      unfold okPt at hb
      simp only [Bool.and_eq_true, Nat.ble_eq, List.all_eq_true] at hb
      obtain ⟨⟨b1, b2⟩, b3⟩ := hb
      have e := blS_eq (List.all_eq_true.2 b1)
      have := pt_fnX (vs := blS vs) b3 (by unfold blS; rw [List.length_map]; omega)
      rw [← e, show partsB (blS vs) = [] from he] at this
      exact ⟨FnOK.pure (this.mono fun v g q => q.1) rfl rfl h, Nat.le_refl _⟩
    | false =>
      injection hs2 with hs
      injection hs with hb hs
      injection hs with hv hh
      subst hv hh
      rw [Bool.and_eq_true] at hb
      obtain ⟨hb, he⟩ := hb
      have hne : partsB (blS vs) ≠ [] := fun q => by unfold ptS at he; rw [q] at he; cases he
      unfold okPt at hb
      simp only [Bool.and_eq_true, Nat.ble_eq, List.all_eq_true] at hb
      obtain ⟨⟨b1, b2⟩, b3⟩ := hb
      have e := blS_eq (List.all_eq_true.2 b1)
      have := pt_fnX (vs := blS vs) b3 (by unfold blS; rw [List.length_map]; omega)
      rw [← e] at this
      refine ⟨FnOK.new1 (args := [fz ⟨vs⟩]) (u := .slice (some ⟨0, 0, none⟩) (ptS vs).length (ptS vs).length) (cs := (ptS vs).map strV) (this.mono ?_) rfl (by intro v hv; obtain ⟨s, _, rfl⟩ := List.mem_map.1 hv; rfl) rfl, Nat.le_succ _⟩
      rintro v g ⟨rfl, hg⟩
      refine ⟨0, ?_, hg hne⟩
      unfold ptS
      cases hp : partsB (blS vs) with
      | nil => exact absurd hp hne
      | cons d D => rfl
  · cases hs2
end Go.Proofs.YtfjfdemnnhfmoaaGreatDoor
