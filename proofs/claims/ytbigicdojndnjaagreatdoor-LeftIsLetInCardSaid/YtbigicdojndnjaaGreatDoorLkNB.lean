/-
  Limits: as much as is left is let in (B).
-/
import Derived.Test.YtbigicdojndnjaaGreatDoorLkN
import Derived.Test.YtbigicdojndnjaaGreatDoorLkMB
import Derived.Test.YtbigicdojndnjaaGreatDoorLkFB
namespace Go.Proofs.YtbigicdojndnjaaGreatDoor
open Go.Ev Go.RowKit LimLaw

theorem lawB (zs : List Int) {m p b d n d2 e : Int} {L : List A4} (hm : okM m) (hp : okPer p) (hb : okBu b) (q0 : 0 ≤ d) (q1 : d ≤ 100) (k0 : 0 ≤ d2) (k1 : d2 ≤ 5000) (hn : IntKind.i64.wrap (0 + nextR (intsV zs) d 11) = n) (he : e = 0) (hL : okLB keyB 3 m p b = true)
    (hS : (SLz zs 3 m p b d n d2 (L.map akV) e).cfg.OK Tryz.prog) (h3 : okFrom 0 L) (hl : L.length ≤ 100) (hw : ∀ a ∈ L, okW a) : FnOK 0 Tryz.prog 4 ⟨[fz (intsV zs)]⟩ h0 (fun v _ => v = .bool true) := by
  have hp0 : p ≠ 0 := by have := okPer_in hp; omega
  have hm0 : m ≠ 0 := by have := okM_in hm; omega
  have hc : (true && (!decide (p = 0) && !decide (m = 0))) = true := by simp [hp0, hm0]
  have hsz : ((Array.mk (L.map akV)).size : Int) = (L.length : Int) := by simp
  obtain ⟨s, hg, hK⟩ := lk_loop (rdB hm hp hb (intsV zs) d2) (enB (m := m) (p := p) (b := b) (intsV zs) d2) hl L.length 0 0 0 .e (by omega) trivial (by rw [List.drop_zero]; exact h3)
  rw [List.drop_zero] at hg hK
  obtain ⟨t0, t1⟩ := last_in hw h3 (Int.le_refl _) (by omega)
  have b4 := nx_in zs (m := 4) (d := d2) k0 (by omega) (by omega) (by omega)
  have hat := at_in b4.1 b4.2
  obtain ⟨A, hA⟩ : ∃ A, A = lastAt 0 L + gI atP (nextR (intsV zs) d2 4) := ⟨_, rfl⟩
  have hAe : IntKind.i64.wrap (lastAt 0 L + gI atP (nextR (intsV zs) d2 4)) = A := by rw [hA]; exact wrap_id _ (by omega) (by omega)
  have hA0 : 0 ≤ A := by omega
  have hA1 : A < 345686400000 := by omega
  have hAn : lastAt 0 L ≤ A := by omega
  match s, hg, hK with
  | .e, hg, hK => exact FnOK.ttree hS mixed Tryz.func4 someLW (loops_or (loops_one one11 (hookL hK)) (ghosts_one (i := 21) ridLW (tellG_ok _ _ _ _ _))) (fB_e zs (L.map akV) m p b d n d2 e (lastAt 0 L) (lastAt 0 L) A  _ (fun v => v = .bool true)) (preT_mk q0 q1 hn he hL ⟨⟨by rw [hsz], rfl⟩, endT_mk k0 k1 hAe hA0 hA1 hAn (need_mk hc (body_mk ((moB_in (x := 0) (y := (IntKind.i64.wrap (b * p))) hm hp hb (GB0 hp hb (by omega) L.length).1 hA0 (GB0 hp hb (by omega) L.length).2.2.1 (GB0 hp hb (by omega) L.length).2.2.2 hA1).2.2) hA0 hA1 hAn (V1 := (fun co X => vB2 m p b 0 (IntKind.i64.wrap (b * p)) A co (fun _ _ => X) (fun _ => (Value.bool false = Value.bool true)))) (fun co X q x => vB2_ok hp0 hm0 q (fun _ _ => x)) (V2 := (fun co => vB2 m p b 0 (IntKind.i64.wrap (b * p)) A co (fun _ _ => (Value.bool false = Value.bool true)) (fun _ => (Value.bool true = Value.bool true)))) (fun co q => vB2_no hp0 hm0 q (fun _ => rfl))))⟩)
  | .a xa, hg, hK => exact FnOK.ttree hS mixed Tryz.func4 someLW (loops_or (loops_one one11 (hookL hK)) (ghosts_one (i := 21) ridLW (tellG_ok _ _ _ _ _))) (fB_a zs (L.map akV) m p b d n d2 e (lastAt 0 L) (lastAt 0 L) A xa.1 xa.2 _ (fun v => v = .bool true)) (preT_mk q0 q1 hn he hL ⟨⟨by rw [hsz], rfl⟩, endT_mk k0 k1 hAe hA0 hA1 hAn (need_mk hc (body_mk ((moB_in (x := xa.1) (y := xa.2) hm hp hb hg.1 (Int.le_trans hg.2.1 hAn) hg.2.2.1 hg.2.2.2 hA1).2.2) hA0 hA1 hAn (V1 := (fun co X => vB2 m p b xa.1 xa.2 A co (fun _ _ => X) (fun _ => (Value.bool false = Value.bool true)))) (fun co X q x => vB2_ok hp0 hm0 q (fun _ _ => x)) (V2 := (fun co => vB2 m p b xa.1 xa.2 A co (fun _ _ => (Value.bool false = Value.bool true)) (fun _ => (Value.bool true = Value.bool true)))) (fun co q => vB2_no hp0 hm0 q (fun _ => rfl))))⟩)
  | .b xb, hg, hK => exact FnOK.ttree hS mixed Tryz.func4 someLW (loops_or (loops_one one11 (hookL hK)) (ghosts_one (i := 21) ridLW (tellG_ok _ _ _ _ _))) (fB_b zs (L.map akV) m p b d n d2 e (lastAt 0 L) (lastAt 0 L) A xb.1 xb.2 _ (fun v => v = .bool true)) (preT_mk q0 q1 hn he hL ⟨⟨by rw [hsz], rfl⟩, endT_mk k0 k1 hAe hA0 hA1 hAn (need_mk hc (body_mk ((moB_in (x := 0) (y := (IntKind.i64.wrap (b * p))) hm hp hb (GB0 hp hb (by omega) L.length).1 hA0 (GB0 hp hb (by omega) L.length).2.2.1 (GB0 hp hb (by omega) L.length).2.2.2 hA1).2.2) hA0 hA1 hAn (V1 := (fun co X => vB2 m p b 0 (IntKind.i64.wrap (b * p)) A co (fun _ _ => X) (fun _ => (Value.bool false = Value.bool true)))) (fun co X q x => vB2_ok hp0 hm0 q (fun _ _ => x)) (V2 := (fun co => vB2 m p b 0 (IntKind.i64.wrap (b * p)) A co (fun _ _ => (Value.bool false = Value.bool true)) (fun _ => (Value.bool true = Value.bool true)))) (fun co q => vB2_no hp0 hm0 q (fun _ => rfl))))⟩)
  | .ab xa xb, hg, hK => exact FnOK.ttree hS mixed Tryz.func4 someLW (loops_or (loops_one one11 (hookL hK)) (ghosts_one (i := 21) ridLW (tellG_ok _ _ _ _ _))) (fB_ab zs (L.map akV) m p b d n d2 e (lastAt 0 L) (lastAt 0 L) A xa.1 xa.2 xb.1 xb.2 _ (fun v => v = .bool true)) (preT_mk q0 q1 hn he hL ⟨⟨by rw [hsz], rfl⟩, endT_mk k0 k1 hAe hA0 hA1 hAn (need_mk hc (body_mk ((moB_in (x := xa.1) (y := xa.2) hm hp hb hg.1.1 (Int.le_trans hg.1.2.1 hAn) hg.1.2.2.1 hg.1.2.2.2 hA1).2.2) hA0 hA1 hAn (V1 := (fun co X => vB2 m p b xa.1 xa.2 A co (fun _ _ => X) (fun _ => (Value.bool false = Value.bool true)))) (fun co X q x => vB2_ok hp0 hm0 q (fun _ _ => x)) (V2 := (fun co => vB2 m p b xa.1 xa.2 A co (fun _ _ => (Value.bool false = Value.bool true)) (fun _ => (Value.bool true = Value.bool true)))) (fun co q => vB2_no hp0 hm0 q (fun _ => rfl))))⟩)
  | .ba xb xa, hg, hK => exact FnOK.ttree hS mixed Tryz.func4 someLW (loops_or (loops_one one11 (hookL hK)) (ghosts_one (i := 21) ridLW (tellG_ok _ _ _ _ _))) (fB_ba zs (L.map akV) m p b d n d2 e (lastAt 0 L) (lastAt 0 L) A xb.1 xb.2 xa.1 xa.2 _ (fun v => v = .bool true)) (preT_mk q0 q1 hn he hL ⟨⟨by rw [hsz], rfl⟩, endT_mk k0 k1 hAe hA0 hA1 hAn (need_mk hc (body_mk ((moB_in (x := xa.1) (y := xa.2) hm hp hb hg.2.1 (Int.le_trans hg.2.2.1 hAn) hg.2.2.2.1 hg.2.2.2.2 hA1).2.2) hA0 hA1 hAn (V1 := (fun co X => vB2 m p b xa.1 xa.2 A co (fun _ _ => X) (fun _ => (Value.bool false = Value.bool true)))) (fun co X q x => vB2_ok hp0 hm0 q (fun _ _ => x)) (V2 := (fun co => vB2 m p b xa.1 xa.2 A co (fun _ _ => (Value.bool false = Value.bool true)) (fun _ => (Value.bool true = Value.bool true)))) (fun co q => vB2_no hp0 hm0 q (fun _ => rfl))))⟩)
end Go.Proofs.YtbigicdojndnjaaGreatDoor
