/-
  Requests: headers, nearly always right ones, as they are drawn.
-/
import Derived.Test.YtnaeehnkabojdaaGreatDoorQuQ
namespace Go.Proofs.YtnaeehnkabojdaaGreatDoor
open Go.Ev Go.RowKit RecLaw PathLaw QueryLaw
/-! Headers -/
noncomputable def SHd (k : Int) : SC := ⟨idn, spOr (spGS 41 shortB 1) (spOr (spGS 45 shortB 1) (spNk 5 k)), true, true⟩
theorem SHd_ok (k : Int) : (SHd k).cfg.OK Tryz.prog := ((spGS_ok tt_gs).or ((spGS_ok ft_gs).or (spNk_ok 5 k))).cfg
noncomputable def hdG (xs : Array Value) (Q : List PB → Int → Prop) (L : List PB) (e : Int) : Prop :=
  dr xs e (bif nextR xs e 60 == 0 then Q (L ++ List.replicate 51 (⟨#[110]⟩, ⟨#[118]⟩)) (e + 1) else Q L (e + 1))
noncomputable def hdF (xs : Array Value) (Q : List PB → Int → Prop) (L : List PB) (e : Int) : Prop :=
  dr xs e (bif nextR xs e 10 == 0 then gn xs (e + 1) (gn xs (gsC 41 shortB 1 xs (e + 1)).2 (hdG xs Q (L ++ [((gsC 41 shortB 1 xs (e + 1)).1, (gsC 45 shortB 1 xs (gsC 41 shortB 1 xs (e + 1)).2).1)]) (gsC 45 shortB 1 xs (gsC 41 shortB 1 xs (e + 1)).2).2)) else hdG xs Q L (e + 1))
theorem hde (xs : Array Value) (d : Int) (Q : Value → Option Obj → Prop) : ffn Tryz.prog (SHd 0) [(224, false), (6951, false)] 3000 [] Tryz.f46 [.pointer (some ⟨0, 0, none⟩), .int .i64 4] (Ev.h1 (strm xs d)) (fun v h => Q v (h.get 0)) =
    drK xs d 5 0 (dr xs (d + 1) (bif nextR xs (d + 1) 10 == 0 then False else dr xs (d + 1 + 1) (bif nextR xs (d + 1 + 1) 60 == 0 then False else Q (.slice none 0 0) (some (strm xs (d + 1 + 1 + 1)))))) := by kernel_rfl
set_option maxRecDepth 100000 in
theorem hde0 (xs : Array Value) (d : Int) (Q : Value → Option Obj → Prop) : tfn Tryz.prog (SHd 0) [] (ghost1 9 (freezeG 29 true 2 [4])) 3000 [] Tryz.f46 [.pointer (some ⟨0, 0, none⟩), .int .i64 4] (Ev.h1 (strm xs d)) (fun v h => Q v (h.get 0)) =
    drK xs d 5 0 (rhT xs (hdF xs (fzQ xs Q)) 0 (d + 1) []) := by kernel_rfl
set_option maxRecDepth 100000 in
theorem hde1 (xs : Array Value) (d : Int) (Q : Value → Option Obj → Prop) : tfn Tryz.prog (SHd 1) [] (ghost1 9 (freezeG 29 true 2 [4])) 3000 [] Tryz.f46 [.pointer (some ⟨0, 0, none⟩), .int .i64 4] (Ev.h1 (strm xs d)) (fun v h => Q v (h.get 0)) =
    drK xs d 5 1 (rhT xs (hdF xs (fzQ xs Q)) 1 (d + 1) []) := by kernel_rfl
set_option maxRecDepth 100000 in
theorem hde2 (xs : Array Value) (d : Int) (Q : Value → Option Obj → Prop) : tfn Tryz.prog (SHd 2) [] (ghost1 9 (freezeG 29 true 2 [4])) 3000 [] Tryz.f46 [.pointer (some ⟨0, 0, none⟩), .int .i64 4] (Ev.h1 (strm xs d)) (fun v h => Q v (h.get 0)) =
    drK xs d 5 2 (rhT xs (hdF xs (fzQ xs Q)) 2 (d + 1) []) := by kernel_rfl
set_option maxRecDepth 100000 in
theorem hde3 (xs : Array Value) (d : Int) (Q : Value → Option Obj → Prop) : tfn Tryz.prog (SHd 3) [] (ghost1 9 (freezeG 29 true 2 [4])) 3000 [] Tryz.f46 [.pointer (some ⟨0, 0, none⟩), .int .i64 4] (Ev.h1 (strm xs d)) (fun v h => Q v (h.get 0)) =
    drK xs d 5 3 (rhT xs (hdF xs (fzQ xs Q)) 3 (d + 1) []) := by kernel_rfl
set_option maxRecDepth 100000 in
theorem hde4 (xs : Array Value) (d : Int) (Q : Value → Option Obj → Prop) : tfn Tryz.prog (SHd 4) [] (ghost1 9 (freezeG 29 true 2 [4])) 3000 [] Tryz.f46 [.pointer (some ⟨0, 0, none⟩), .int .i64 4] (Ev.h1 (strm xs d)) (fun v h => Q v (h.get 0)) =
    drK xs d 5 4 (rhT xs (hdF xs (fzQ xs Q)) 4 (d + 1) []) := by kernel_rfl
theorem someHD : Tryz.f46.body.isSome = true := by kernel_rfl
theorem gh9 : LoopsOK 1 Tryz.prog 29 (ghost1 9 (freezeG 29 true 2 [4])) (codeOf Tryz.f46) := ghosts_one (by kernel_rfl) (freezeG_ok _ _ _ _ _ _)
theorem rhT_ex2 (zs : List Int) {F : (List PB → Int → Prop) → List PB → Int → Prop} {R : List PB → Int → Prop} (n : Nat) {e : Int} (h0 : 0 ≤ e) (h1 : e + 2 * n ≤ 1000) (hF : ∀ L, shL L → L.length = n → ∃ L' e', R L' e' ∧ ∀ Q : List PB → Int → Prop, Q L' e' → F Q L (e + 2 * n)) :
    ∃ L' e', R L' e' ∧ ∀ Q : List PB → Int → Prop, Q L' e' → rhT (intsV zs) (F Q) n e [] := by
  obtain ⟨L, g1, g2, g3⟩ := rhT_ex zs n e [] (fun p hp => by cases hp) h0 h1
  obtain ⟨L', e', r1, r2⟩ := hF L g1 (by rw [g2]; simp)
  exact ⟨L', e', r1, fun Q hQ => g3 _ (r2 Q hQ)⟩
def hdR (m : Int) (L : List PB) (e : Int) : Prop := shL L ∧ (L.length ≤ 5 ∨ 50 < L.length ∧ L.length ≤ 100) ∧ 0 ≤ e ∧ e ≤ m
theorem hdG_ex (zs : List Int) {L : List PB} (hL : shL L) (hn : L.length ≤ 5) {e : Int} (h0 : 0 ≤ e) (h1 : e ≤ 500) (hne : L ≠ [] ∨ nextR (intsV zs) e 60 = 0) : ∃ L' e', (hdR (e + 1) L' e' ∧ L' ≠ []) ∧ ∀ Q : List PB → Int → Prop, Q L' e' → hdG (intsV zs) Q L e := by
  by_cases c : nextR (intsV zs) e 60 = 0
  · refine ⟨L ++ List.replicate 51 (⟨#[110]⟩, ⟨#[118]⟩), e + 1, ⟨⟨?_, .inr ?_, by omega, by omega⟩, by simp⟩, fun Q hQ => dr_mk h0 (by omega) (pick_t (by rw [c]; rfl) hQ)⟩
    · intro p hp
      rcases List.mem_append.1 hp with q | q
      · exact hL p q
      · rw [List.eq_of_mem_replicate q]; exact ⟨Nat.le_of_ble_eq_true rfl, Nat.le_of_ble_eq_true rfl⟩
    · rw [List.length_append, List.length_replicate]; omega
  · exact ⟨L, e + 1, ⟨⟨hL, .inl hn, by omega, by omega⟩, hne.resolve_right c⟩, fun Q hQ => dr_mk h0 (by omega) (pick_f (by simpa using c) hQ)⟩
theorem hdF_ex (zs : List Int) {L : List PB} (hL : shL L) (hn : L.length ≤ 4) {e : Int} (h0 : 0 ≤ e) (h1 : e ≤ 55) (hne : L ≠ [] ∨ nextR (intsV zs) e 10 = 0 ∨ nextR (intsV zs) (e + 1) 60 = 0) : ∃ L' e', (hdR (e + 10) L' e' ∧ L' ≠ []) ∧ ∀ Q : List PB → Int → Prop, Q L' e' → hdF (intsV zs) Q L e := by
  by_cases c : nextR (intsV zs) e 10 = 0
  · obtain ⟨t1, t2, t3, _⟩ := gsC_ok tt_gs zs (d := e + 1) (by omega) (by omega)
    obtain ⟨f1, f2, f3, _⟩ := gsC_ok ft_gs zs (d := (gsC 41 shortB 1 (intsV zs) (e + 1)).2) t2 (by omega)
    obtain ⟨L', e', ⟨⟨r1, r2, r3, r4⟩, r6⟩, r5⟩ := hdG_ex zs (shL_app (p := ((gsC 41 shortB 1 (intsV zs) (e + 1)).1, (gsC 45 shortB 1 (intsV zs) (gsC 41 shortB 1 (intsV zs) (e + 1)).2).1)) hL t1 f1) (by rw [List.length_append]; simp; omega) f2 (by omega) (.inl (by simp))
    exact ⟨L', e', ⟨⟨r1, r2, r3, by omega⟩, r6⟩, fun Q hQ => dr_mk h0 (by omega) (pick_t (by rw [c]; rfl) (gn_mk (by omega) (by omega) (gn_mk t2 (by omega) (r5 Q hQ))))⟩
  · obtain ⟨L', e', ⟨⟨r1, r2, r3, r4⟩, r6⟩, r5⟩ := hdG_ex zs hL (by omega) (e := e + 1) (by omega) (by omega) (by rcases hne with q | q | q; exact .inl q; exact absurd q c; exact .inr q)
    exact ⟨L', e', ⟨⟨r1, r2, r3, by omega⟩, r6⟩, fun Q hQ => dr_mk h0 (by omega) (pick_f (by simpa using c) (r5 Q hQ))⟩
theorem hd_fin {zs : List Int} {d : Int} {L : List PB} {e : Int} (hL : hdR (d + 40) L e) (hne : L ≠ [])
    (hF : FnOK 1 Tryz.prog 46 ⟨[.pointer (some ⟨0, 0, none⟩), .int .i64 4]⟩ (Ev.h1 (strm (intsV zs) d)) (fun u g => u = fz ⟨L.map pvV⟩ ∧ g.get 0 = some (strm (intsV zs) e))) : ∃ r, GhOK 46 40 (intsV zs) d r := by
  obtain ⟨h1, h2, h3, h4⟩ := hL
  refine ⟨(L.map unB, e), shL_HL h1 h2, h3, h4, hF.mono ?_⟩
  rintro u g ⟨rfl, hg⟩
  refine ⟨?_, hg⟩
  match L, hne with
  | p :: l, _ => exact congrArg (fun x => fz ⟨x⟩) (pv_map (p :: l)).symm
theorem hd_ex : GhEx 46 40 40 := by
  intro zs d h0 h1
  have hb := (nextR_spec zs 5 d h0 (by omega) (by omega) (by omega)).1
  have hk : nextR (intsV zs) d 5 = 0 ∨ nextR (intsV zs) d 5 = 1 ∨ nextR (intsV zs) d 5 = 2 ∨ nextR (intsV zs) d 5 = 3 ∨ nextR (intsV zs) d 5 = 4 := by omega
  rcases hk with h | h | h | h | h
  · by_cases hne : nextR (intsV zs) (d + 1) 10 = 0 ∨ nextR (intsV zs) (d + 1 + 1) 60 = 0
    · obtain ⟨L, e, ⟨⟨r1, r2, r3, r4⟩, r6⟩, r5⟩ := hdF_ex zs (L := []) (fun p hp => by cases hp) (by simp) (e := d + 1) (by omega) (by omega) (.inr hne)
      exact hd_fin ⟨r1, r2, r3, by omega⟩ r6 (FnOK.ttree (SHd_ok 0) mixed Tryz.func46 someHD gh9 (hde0 (intsV zs) d (fun u o => u = fz ⟨L.map pvV⟩ ∧ o = some (strm (intsV zs) e))) (drK_mk h0 (by omega) h (r5 _ ⟨rfl, rfl⟩)))
    · have c1 : ¬ nextR (intsV zs) (d + 1) 10 = 0 := fun q => hne (.inl q)
      have c2 : ¬ nextR (intsV zs) (d + 1 + 1) 60 = 0 := fun q => hne (.inr q)
      exact ⟨([], d + 1 + 1 + 1), ⟨.inl (by simp), fun p hp => by cases hp⟩, by show 0 ≤ d + 1 + 1 + 1; omega, by show d + 1 + 1 + 1 ≤ d + 40; omega, FnOK.ftree (SHd_ok 0) mixed Tryz.func46 someHD (hde (intsV zs) d (fun u o => u = hdV [] ∧ o = some (strm (intsV zs) (d + 1 + 1 + 1)))) (drK_mk h0 (by omega) h (dr_mk (by omega) (by omega) (pick_f (by simpa using c1) (dr_mk (by omega) (by omega) (pick_f (by simpa using c2) ⟨rfl, rfl⟩)))))⟩
  · obtain ⟨L, e, ⟨⟨r1, r2, r3, r4⟩, r6⟩, r5⟩ := rhT_ex2 zs (F := hdF (intsV zs)) (R := fun L e => hdR (d + 1 + 2 * ((1 : Nat) : Int) + 10) L e ∧ L ≠ []) 1 (e := d + 1) (by omega) (by omega) (fun L hL hn => hdF_ex zs hL (by omega) (by omega) (by omega) (.inl (fun q => by rw [q] at hn; cases hn)))
    exact hd_fin ⟨r1, r2, r3, by omega⟩ r6 (FnOK.ttree (SHd_ok 1) mixed Tryz.func46 someHD gh9 (hde1 (intsV zs) d (fun u o => u = fz ⟨L.map pvV⟩ ∧ o = some (strm (intsV zs) e))) (drK_mk h0 (by omega) h (r5 _ ⟨rfl, rfl⟩)))
  · obtain ⟨L, e, ⟨⟨r1, r2, r3, r4⟩, r6⟩, r5⟩ := rhT_ex2 zs (F := hdF (intsV zs)) (R := fun L e => hdR (d + 1 + 2 * ((2 : Nat) : Int) + 10) L e ∧ L ≠ []) 2 (e := d + 1) (by omega) (by omega) (fun L hL hn => hdF_ex zs hL (by omega) (by omega) (by omega) (.inl (fun q => by rw [q] at hn; cases hn)))
    exact hd_fin ⟨r1, r2, r3, by omega⟩ r6 (FnOK.ttree (SHd_ok 2) mixed Tryz.func46 someHD gh9 (hde2 (intsV zs) d (fun u o => u = fz ⟨L.map pvV⟩ ∧ o = some (strm (intsV zs) e))) (drK_mk h0 (by omega) h (r5 _ ⟨rfl, rfl⟩)))
  · obtain ⟨L, e, ⟨⟨r1, r2, r3, r4⟩, r6⟩, r5⟩ := rhT_ex2 zs (F := hdF (intsV zs)) (R := fun L e => hdR (d + 1 + 2 * ((3 : Nat) : Int) + 10) L e ∧ L ≠ []) 3 (e := d + 1) (by omega) (by omega) (fun L hL hn => hdF_ex zs hL (by omega) (by omega) (by omega) (.inl (fun q => by rw [q] at hn; cases hn)))
    exact hd_fin ⟨r1, r2, r3, by omega⟩ r6 (FnOK.ttree (SHd_ok 3) mixed Tryz.func46 someHD gh9 (hde3 (intsV zs) d (fun u o => u = fz ⟨L.map pvV⟩ ∧ o = some (strm (intsV zs) e))) (drK_mk h0 (by omega) h (r5 _ ⟨rfl, rfl⟩)))
  · obtain ⟨L, e, ⟨⟨r1, r2, r3, r4⟩, r6⟩, r5⟩ := rhT_ex2 zs (F := hdF (intsV zs)) (R := fun L e => hdR (d + 1 + 2 * ((4 : Nat) : Int) + 10) L e ∧ L ≠ []) 4 (e := d + 1) (by omega) (by omega) (fun L hL hn => hdF_ex zs hL (by omega) (by omega) (by omega) (.inl (fun q => by rw [q] at hn; cases hn)))
    exact hd_fin ⟨r1, r2, r3, by omega⟩ r6 (FnOK.ttree (SHd_ok 4) mixed Tryz.func46 someHD gh9 (hde4 (intsV zs) d (fun u o => u = fz ⟨L.map pvV⟩ ∧ o = some (strm (intsV zs) e))) (drK_mk h0 (by omega) h (r5 _ ⟨rfl, rfl⟩)))
end Go.Proofs.YtnaeehnkabojdaaGreatDoor
