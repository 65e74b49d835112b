/-
  Limits: as much as is left is let in (W).
-/
import Derived.Test.YtbigicdojndnjaaGreatDoorLkN
import Derived.Test.YtbigicdojndnjaaGreatDoorLkMW
import Derived.Test.YtbigicdojndnjaaGreatDoorLkFW
namespace Go.Proofs.YtbigicdojndnjaaGreatDoor
open Go.Ev Go.RowKit LimLaw

theorem lawW (zs : List Int) {m p b d n d2 e : Int} {L : List A4} (hp : okPer p) (hm : okM m) (q0 : 0 ≤ d) (q1 : d ≤ 100) (k0 : 0 ≤ d2) (k1 : d2 ≤ 5000) (hn : IntKind.i64.wrap (0 + nextR (intsV zs) d 11) = n) (he : e = 0) (hL : okLB keyB 1 m p b = true)
    (hS : (SLz zs 1 m p b d n d2 (L.map akV) e).cfg.OK Tryz.prog) (h3 : okFrom 0 L) (hl : L.length ≤ 100) (hw : ∀ a ∈ L, okW a) : FnOK 0 Tryz.prog 4 ⟨[fz (intsV zs)]⟩ h0 (fun v _ => v = .bool true) := by
  have hp0 : p ≠ 0 := by have := okPer_in hp; omega
  have hc : (true && !decide (p = 0)) = true := by simp [hp0]
  have hsz : ((Array.mk (L.map akV)).size : Int) = (L.length : Int) := by simp
  obtain ⟨s, hg, hK⟩ := lk_loop (rdW (m := m) (b := b) hp0 hm (intsV zs) d2) (enW (m := m) (p := p) (b := b) (intsV zs) d2) hl L.length 0 0 0 .e (by omega) trivial (by rw [List.drop_zero]; exact h3)
  rw [List.drop_zero] at hg hK
  obtain ⟨t0, t1⟩ := last_in hw h3 (Int.le_refl _) (by omega)
  have b4 := nx_in zs (m := 4) (d := d2) k0 (by omega) (by omega) (by omega)
  have hat := at_in b4.1 b4.2
  obtain ⟨A, hA⟩ : ∃ A, A = lastAt 0 L + gI atP (nextR (intsV zs) d2 4) := ⟨_, rfl⟩
  have hAe : IntKind.i64.wrap (lastAt 0 L + gI atP (nextR (intsV zs) d2 4)) = A := by rw [hA]; exact wrap_id _ (by omega) (by omega)
  have hA0 : 0 ≤ A := by omega
  have hA1 : A < 345686400000 := by omega
  have hAn : lastAt 0 L ≤ A := by omega
  match s, hg, hK with
  | .e, hg, hK => exact FnOK.ttree hS mixed Tryz.func4 someLW (loops_or (loops_one one11 (hookL hK)) (ghosts_one (i := 21) ridLW (tellG_ok _ _ _ _ _))) (fW_e zs (L.map akV) m p b d n d2 e (lastAt 0 L) (lastAt 0 L) A  _ (fun v => v = .bool true)) (preT_mk q0 q1 hn he hL ⟨⟨by rw [hsz], rfl⟩, endT_mk k0 k1 hAe hA0 hA1 hAn (need_mk hc (body_mk (moW_in (x := 0) (y := 0) hm (i := L.length) (now := lastAt 0 L) hl (GW0 _ _)) hA0 hA1 hAn (V1 := (fun co X => vW2 m p b 0 0 A co (fun _ _ => X) (fun _ => (Value.bool false = Value.bool true)))) (fun co X q x => vW2_ok hp0 q (fun _ _ => x)) (V2 := (fun co => vW2 m p b 0 0 A co (fun _ _ => (Value.bool false = Value.bool true)) (fun _ => (Value.bool true = Value.bool true)))) (fun co q => vW2_no hp0 q (fun _ => rfl))))⟩)
  | .a xa, hg, hK => exact FnOK.ttree hS mixed Tryz.func4 someLW (loops_or (loops_one one11 (hookL hK)) (ghosts_one (i := 21) ridLW (tellG_ok _ _ _ _ _))) (fW_a zs (L.map akV) m p b d n d2 e (lastAt 0 L) (lastAt 0 L) A xa.1 xa.2 _ (fun v => v = .bool true)) (preT_mk q0 q1 hn he hL ⟨⟨by rw [hsz], rfl⟩, endT_mk k0 k1 hAe hA0 hA1 hAn (need_mk hc (body_mk (moW_in (x := xa.1) (y := xa.2) hm (i := L.length) (now := lastAt 0 L) hl hg) hA0 hA1 hAn (V1 := (fun co X => vW2 m p b xa.1 xa.2 A co (fun _ _ => X) (fun _ => (Value.bool false = Value.bool true)))) (fun co X q x => vW2_ok hp0 q (fun _ _ => x)) (V2 := (fun co => vW2 m p b xa.1 xa.2 A co (fun _ _ => (Value.bool false = Value.bool true)) (fun _ => (Value.bool true = Value.bool true)))) (fun co q => vW2_no hp0 q (fun _ => rfl))))⟩)
  | .b xb, hg, hK => exact FnOK.ttree hS mixed Tryz.func4 someLW (loops_or (loops_one one11 (hookL hK)) (ghosts_one (i := 21) ridLW (tellG_ok _ _ _ _ _))) (fW_b zs (L.map akV) m p b d n d2 e (lastAt 0 L) (lastAt 0 L) A xb.1 xb.2 _ (fun v => v = .bool true)) (preT_mk q0 q1 hn he hL ⟨⟨by rw [hsz], rfl⟩, endT_mk k0 k1 hAe hA0 hA1 hAn (need_mk hc (body_mk (moW_in (x := 0) (y := 0) hm (i := L.length) (now := lastAt 0 L) hl (GW0 _ _)) hA0 hA1 hAn (V1 := (fun co X => vW2 m p b 0 0 A co (fun _ _ => X) (fun _ => (Value.bool false = Value.bool true)))) (fun co X q x => vW2_ok hp0 q (fun _ _ => x)) (V2 := (fun co => vW2 m p b 0 0 A co (fun _ _ => (Value.bool false = Value.bool true)) (fun _ => (Value.bool true = Value.bool true)))) (fun co q => vW2_no hp0 q (fun _ => rfl))))⟩)
  | .ab xa xb, hg, hK => exact FnOK.ttree hS mixed Tryz.func4 someLW (loops_or (loops_one one11 (hookL hK)) (ghosts_one (i := 21) ridLW (tellG_ok _ _ _ _ _))) (fW_ab zs (L.map akV) m p b d n d2 e (lastAt 0 L) (lastAt 0 L) A xa.1 xa.2 xb.1 xb.2 _ (fun v => v = .bool true)) (preT_mk q0 q1 hn he hL ⟨⟨by rw [hsz], rfl⟩, endT_mk k0 k1 hAe hA0 hA1 hAn (need_mk hc (body_mk (moW_in (x := xa.1) (y := xa.2) hm (i := L.length) (now := lastAt 0 L) hl hg.1) hA0 hA1 hAn (V1 := (fun co X => vW2 m p b xa.1 xa.2 A co (fun _ _ => X) (fun _ => (Value.bool false = Value.bool true)))) (fun co X q x => vW2_ok hp0 q (fun _ _ => x)) (V2 := (fun co => vW2 m p b xa.1 xa.2 A co (fun _ _ => (Value.bool false = Value.bool true)) (fun _ => (Value.bool true = Value.bool true)))) (fun co q => vW2_no hp0 q (fun _ => rfl))))⟩)
  | .ba xb xa, hg, hK => exact FnOK.ttree hS mixed Tryz.func4 someLW (loops_or (loops_one one11 (hookL hK)) (ghosts_one (i := 21) ridLW (tellG_ok _ _ _ _ _))) (fW_ba zs (L.map akV) m p b d n d2 e (lastAt 0 L) (lastAt 0 L) A xb.1 xb.2 xa.1 xa.2 _ (fun v => v = .bool true)) (preT_mk q0 q1 hn he hL ⟨⟨by rw [hsz], rfl⟩, endT_mk k0 k1 hAe hA0 hA1 hAn (need_mk hc (body_mk (moW_in (x := xa.1) (y := xa.2) hm (i := L.length) (now := lastAt 0 L) hl hg.2) hA0 hA1 hAn (V1 := (fun co X => vW2 m p b xa.1 xa.2 A co (fun _ _ => X) (fun _ => (Value.bool false = Value.bool true)))) (fun co X q x => vW2_ok hp0 q (fun _ _ => x)) (V2 := (fun co => vW2 m p b xa.1 xa.2 A co (fun _ _ => (Value.bool false = Value.bool true)) (fun _ => (Value.bool true = Value.bool true)))) (fun co q => vW2_no hp0 q (fun _ => rfl))))⟩)
end Go.Proofs.YtbigicdojndnjaaGreatDoor
