/-
  Headers: a right request, chosen.
-/
import Derived.Test.YtfjfdemnnhfmoaaGreatDoorHoR
namespace Go.Proofs.YtfjfdemnnhfmoaaGreatDoor
open Go.Ev Go.RowKit RecLaw PathLaw HopLaw

theorem rr_ex (zs : List Int) : ∃ v d, RqD v ∧ ∀ Q : Value → Option Obj → Prop, Q v (some (strm (intsV zs) d)) → rrT (intsV zs) 0 Q := by
  obtain ⟨h1, h2, h3⟩ := rh_in zs (d := 0 + 1 + 1 + 1 + 1 + 1 + 1) (by omega) (by omega)
  have hz : (decide ((0 : Int) ≤ 0 + 1 + 1 + 1 + 1 + 1 + 1) && decide ((0 + 1 + 1 + 1 + 1 + 1 + 1 : Int) ≤ 100000) && allInts (intsV zs)) = true := by rw [allInts_intsV]; rfl
  cases hc : nextR (intsV zs) (rhE (intsV zs) (0 + 1 + 1 + 1 + 1 + 1 + 1)) 4 == 0 with
  | true =>
    have hb := (nextR_spec zs 3 (rhE (intsV zs) (0 + 1 + 1 + 1 + 1 + 1 + 1) + 1) (by omega) (by omega) (by omega) (by omega)).1
    refine ⟨_, rhE (intsV zs) (0 + 1 + 1 + 1 + 1 + 1 + 1) + 1 + 1, rqD_mk zs (bo_in hb.1 hb.2), fun Q hQ => ?_⟩
    unfold rrT
    exact dr_mk (by omega) (by omega) (rg_mk (by omega) (by omega) rfl (by decide) (dr_mk (by omega) (by omega) (rg_mk (by omega) (by omega) rfl (by decide) (dr_mk (by omega) (by omega) (rg_mk (by omega) (by omega) rfl (by decide) (dr_mk (by omega) (by omega) (rg_mk (by omega) (by omega) rfl (by decide) (dr_mk (by omega) (by omega) (rg_mk (by omega) (by omega) rfl (by decide) (dr_mk (by omega) (by omega) (rg_mk (by omega) (by omega) rfl (by decide) (need_mk hz (dr_mk (by omega) (by omega) (pick_t hc (dr_mk (by omega) (by omega) (rg_mk (by omega) (by omega) rfl (by decide) (hQ)))))))))))))))))
  | false =>
    refine ⟨_, rhE (intsV zs) (0 + 1 + 1 + 1 + 1 + 1 + 1) + 1, rqD_mk zs (bd := ⟨#[]⟩) rfl, fun Q hQ => ?_⟩
    unfold rrT
    exact dr_mk (by omega) (by omega) (rg_mk (by omega) (by omega) rfl (by decide) (dr_mk (by omega) (by omega) (rg_mk (by omega) (by omega) rfl (by decide) (dr_mk (by omega) (by omega) (rg_mk (by omega) (by omega) rfl (by decide) (dr_mk (by omega) (by omega) (rg_mk (by omega) (by omega) rfl (by decide) (dr_mk (by omega) (by omega) (rg_mk (by omega) (by omega) rfl (by decide) (dr_mk (by omega) (by omega) (rg_mk (by omega) (by omega) rfl (by decide) (need_mk hz (dr_mk (by omega) (by omega) (pick_f hc hQ))))))))))))))
end Go.Proofs.YtfjfdemnnhfmoaaGreatDoor
