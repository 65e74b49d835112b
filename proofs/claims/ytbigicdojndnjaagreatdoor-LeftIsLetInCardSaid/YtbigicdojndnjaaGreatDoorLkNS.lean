/-
  Limits: as much as is left is let in (S).
-/
import Derived.Test.YtbigicdojndnjaaGreatDoorLkN
import Derived.Test.YtbigicdojndnjaaGreatDoorLkMS
import Derived.Test.YtbigicdojndnjaaGreatDoorLkFS
namespace Go.Proofs.YtbigicdojndnjaaGreatDoor
open Go.Ev Go.RowKit LimLaw

theorem lawS (zs : List Int) {m p b d n d2 e : Int} {L : List A4} (hm : okM m) (q0 : 0 ≤ d) (q1 : d ≤ 100) (k0 : 0 ≤ d2) (k1 : d2 ≤ 5000) (hn : IntKind.i64.wrap (0 + nextR (intsV zs) d 11) = n) (he : e = 0) (hL : okLB keyB 2 m p b = true)
    (hS : (SLz zs 2 m p b d n d2 (L.map akV) e).cfg.OK Tryz.prog) (h3 : okFrom 0 L) (hl : L.length ≤ 100) (hw : ∀ a ∈ L, okW a) : FnOK 0 Tryz.prog 4 ⟨[fz (intsV zs)]⟩ h0 (fun v _ => v = .bool true) := by
  have hsz : ((Array.mk (L.map akV)).size : Int) = (L.length : Int) := by simp
  obtain ⟨s, hg, hK⟩ := lk_loop (rdS (m := m) (p := p) (b := b) (intsV zs) d2) (enS (m := m) (p := p) (b := b) (intsV zs) d2) hl L.length 0 0 0 .e (by omega) trivial (by rw [List.drop_zero]; exact h3)
  rw [List.drop_zero] at hg hK
  obtain ⟨t0, t1⟩ := last_in hw h3 (Int.le_refl _) (by omega)
  have b4 := nx_in zs (m := 4) (d := d2) k0 (by omega) (by omega) (by omega)
  have hat := at_in b4.1 b4.2
  obtain ⟨A, hA⟩ : ∃ A, A = lastAt 0 L + gI atP (nextR (intsV zs) d2 4) := ⟨_, rfl⟩
  have hAe : IntKind.i64.wrap (lastAt 0 L + gI atP (nextR (intsV zs) d2 4)) = A := by rw [hA]; exact wrap_id _ (by omega) (by omega)
  have hA0 : 0 ≤ A := by omega
  have hA1 : A < 345686400000 := by omega
  have hAn : lastAt 0 L ≤ A := by omega
  match s, hg, hK with
  | .e, hg, hK => exact FnOK.ttree hS mixed Tryz.func4 someLW (loops_or (loops_one one11 (hookL hK)) (ghosts_one (i := 21) ridLW (tellG_ok _ _ _ _ _))) (fS_e zs (L.map akV) m p b d n d2 e (lastAt 0 L) (lastAt 0 L) A  _ (fun v => v = .bool true)) (preT_mk q0 q1 hn he hL ⟨⟨by rw [hsz], rfl⟩, endT_mk k0 k1 hAe hA0 hA1 hAn ((body_mk (m0_in hm) hA0 hA1 hAn (V1 := (fun co X => v0 m co X (fun _ => (Value.bool false = Value.bool true)))) (fun co X q x => v0_ok q x) (V2 := (fun co => v0 m co (Value.bool false = Value.bool true) (fun _ => (Value.bool true = Value.bool true)))) (fun co q => v0_no q (fun _ => rfl))))⟩)
  | .a xa, hg, hK => exact FnOK.ttree hS mixed Tryz.func4 someLW (loops_or (loops_one one11 (hookL hK)) (ghosts_one (i := 21) ridLW (tellG_ok _ _ _ _ _))) (fS_ar zs (L.map akV) m p b d n d2 e (lastAt 0 L) (lastAt 0 L) A xa.length (xa.flatMap pcC) _ (fun v => v = .bool true)) (preT_mk q0 q1 hn he hL ⟨⟨by rw [hsz], rfl⟩, endT_mk k0 k1 hAe hA0 hA1 hAn (need_mk (row_c (Nat.le_trans hg.1 (by omega))) (body_mk (mR_in (now := lastAt 0 L) hm hl hg) hA0 hA1 hAn (V1 := (fun co X => vR m p 0 xa.length (xa.flatMap pcC) A co (fun _ _ => X) (fun _ => (Value.bool false = Value.bool true)))) (fun co X q x => vR_ok (Nat.le_trans hg.1 (by omega)) q (fun _ _ => x)) (V2 := (fun co => vR m p 0 xa.length (xa.flatMap pcC) A co (fun _ _ => (Value.bool false = Value.bool true)) (fun _ => (Value.bool true = Value.bool true)))) (fun co q => vR_no (Nat.le_trans hg.1 (by omega)) q (fun _ => rfl))))⟩)
  | .b xb, hg, hK => exact FnOK.ttree hS mixed Tryz.func4 someLW (loops_or (loops_one one11 (hookL hK)) (ghosts_one (i := 21) ridLW (tellG_ok _ _ _ _ _))) (fS_br zs (L.map akV) m p b d n d2 e (lastAt 0 L) (lastAt 0 L) A xb.length (xb.flatMap pcC) _ (fun v => v = .bool true)) (preT_mk q0 q1 hn he hL ⟨⟨by rw [hsz], rfl⟩, endT_mk k0 k1 hAe hA0 hA1 hAn ((body_mk (m0_in hm) hA0 hA1 hAn (V1 := (fun co X => v0 m co X (fun _ => (Value.bool false = Value.bool true)))) (fun co X q x => v0_ok q x) (V2 := (fun co => v0 m co (Value.bool false = Value.bool true) (fun _ => (Value.bool true = Value.bool true)))) (fun co q => v0_no q (fun _ => rfl))))⟩)
  | .ab xa xb, hg, hK => exact FnOK.ttree hS mixed Tryz.func4 someLW (loops_or (loops_one one11 (hookL hK)) (ghosts_one (i := 21) ridLW (tellG_ok _ _ _ _ _))) (fS_arbr zs (L.map akV) m p b d n d2 e (lastAt 0 L) (lastAt 0 L) A xa.length (xa.flatMap pcC) xb.length (xb.flatMap pcC) _ (fun v => v = .bool true)) (preT_mk q0 q1 hn he hL ⟨⟨by rw [hsz], rfl⟩, endT_mk k0 k1 hAe hA0 hA1 hAn (need_mk (row_c (Nat.le_trans hg.1.1 (by omega))) (body_mk (mR_in (now := lastAt 0 L) hm hl hg.1) hA0 hA1 hAn (V1 := (fun co X => vR m p 0 xa.length (xa.flatMap pcC) A co (fun _ _ => X) (fun _ => (Value.bool false = Value.bool true)))) (fun co X q x => vR_ok (Nat.le_trans hg.1.1 (by omega)) q (fun _ _ => x)) (V2 := (fun co => vR m p 0 xa.length (xa.flatMap pcC) A co (fun _ _ => (Value.bool false = Value.bool true)) (fun _ => (Value.bool true = Value.bool true)))) (fun co q => vR_no (Nat.le_trans hg.1.1 (by omega)) q (fun _ => rfl))))⟩)
  | .ba xb xa, hg, hK => exact FnOK.ttree hS mixed Tryz.func4 someLW (loops_or (loops_one one11 (hookL hK)) (ghosts_one (i := 21) ridLW (tellG_ok _ _ _ _ _))) (fS_brar zs (L.map akV) m p b d n d2 e (lastAt 0 L) (lastAt 0 L) A xb.length (xb.flatMap pcC) xa.length (xa.flatMap pcC) _ (fun v => v = .bool true)) (preT_mk q0 q1 hn he hL ⟨⟨by rw [hsz], rfl⟩, endT_mk k0 k1 hAe hA0 hA1 hAn (need_mk (row_c (Nat.le_trans hg.2.1 (by omega))) (body_mk (mR_in (now := lastAt 0 L) hm hl hg.2) hA0 hA1 hAn (V1 := (fun co X => vR m p 0 xa.length (xa.flatMap pcC) A co (fun _ _ => X) (fun _ => (Value.bool false = Value.bool true)))) (fun co X q x => vR_ok (Nat.le_trans hg.2.1 (by omega)) q (fun _ _ => x)) (V2 := (fun co => vR m p 0 xa.length (xa.flatMap pcC) A co (fun _ _ => (Value.bool false = Value.bool true)) (fun _ => (Value.bool true = Value.bool true)))) (fun co q => vR_no (Nat.le_trans hg.2.1 (by omega)) q (fun _ => rfl))))⟩)
end Go.Proofs.YtbigicdojndnjaaGreatDoor
