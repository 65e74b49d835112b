/-
  Limits: as much as is left is let in.
-/
import Derived.Test.YtbigicdojndnjaaGreatDoorLkNW
import Derived.Test.YtbigicdojndnjaaGreatDoorLkNS
import Derived.Test.YtbigicdojndnjaaGreatDoorLkNB
import Derived.Test.YtbigicdojndnjaaGreatDoorLkNO
namespace Go.Proofs.YtbigicdojndnjaaGreatDoor
open Go.Ev Go.RowKit LimLaw

theorem law_ok (zs : List Int) : FnOK 0 Tryz.prog 4 ⟨[fz (intsV zs)]⟩ h0 (fun v _ => v = .bool true) := by
  obtain ⟨c, m, p, b, d, hL, hd0, hd1, hr⟩ := rl_ex zs keyB (d := 0) (Int.le_refl _) (by omega)
  have b0 := nx_in zs (m := 11) (d := d) (by omega) (by omega) (by omega) (by omega)
  obtain ⟨k, hk⟩ : ∃ k : Nat, nextR (intsV zs) d 11 = (k : Int) := ⟨_, (Int.toNat_of_nonneg b0.1).symm⟩
  have hk10 : k ≤ 10 := by omega
  have hn : IntKind.i64.wrap (0 + nextR (intsV zs) d 11) = (k : Int) := by rw [wrap_id _ (by omega) (by omega)]; omega
  obtain ⟨L, d2, hlen, hw, e0, e1, hA⟩ := as_ex zs (n := k) (by omega) (d := d + 1) (by omega) (by omega)
  obtain ⟨e, he, hQ⟩ := qs_ex (L := L) (by omega) (fun a ha => (hw a ha).1)
  have hS := SLz_ok (d := d) (ys := L.map akV) hr hA hQ
  by_cases q : e = 0
  · have hok : okLB keyB c m p b = true := okLB_iff.2 ⟨rfl, hL⟩
    obtain ⟨hm, hk⟩ := hL
    rcases hk with ⟨rfl, hp, rfl⟩ | ⟨rfl, hp, rfl⟩ | ⟨rfl, hp, hb⟩ | ⟨rfl, rfl, rfl⟩
    · exact lawW zs hp hm (by omega) (by omega) e0 (by omega) hn q hok hS (he q) (by omega) hw
    · exact lawS zs hm (by omega) (by omega) e0 (by omega) hn q hok hS (he q) (by omega) hw
    · exact lawB zs hm hp hb (by omega) (by omega) e0 (by omega) hn q hok hS (he q) (by omega) hw
    · exact lawO zs hm (by omega) (by omega) e0 (by omega) hn q hok hS (he q) (by omega) hw
  · exact FnOK.ftree hS mixed Tryz.func4 someLW (lwE zs c m p b d (k : Int) d2 e (L.map akV) (fun v => v = .bool true)) (preE_mk (by omega) (by omega) hn q rfl)
end Go.Proofs.YtbigicdojndnjaaGreatDoor
