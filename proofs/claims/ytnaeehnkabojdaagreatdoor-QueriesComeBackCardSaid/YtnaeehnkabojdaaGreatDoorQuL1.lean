/-
  Requests: nearly always right ones, by existence.
-/
import Derived.Test.YtnaeehnkabojdaaGreatDoorQuY
namespace Go.Proofs.YtnaeehnkabojdaaGreatDoor
open Go.Ev Go.RowKit RecLaw PathLaw QueryLaw

theorem sh_of {l : Bs} (h : l.length ≤ 10000) : shortB (bl l) := by unfold shortB; rw [bl_size]; exact h
theorem o_m {r : Rq} (ok : OkR r) : shortB (bl r.m) := sh_of ok.m
theorem o_ho {r : Rq} (ok : OkR r) : hostS (bl r.ho) := by unfold hostS; rw [bl_list]; exact ok.ho
theorem o_p {r : Rq} (ok : OkR r) : shortB (bl r.p) := sh_of ok.p
theorem o_q {r : Rq} (ok : OkR r) : qryS (bl r.q) := by unfold qryS; rw [bl_size, bl_list]; exact ⟨ok.q, ok.qs⟩
theorem o_f {r : Rq} (ok : OkR r) : shortB (bl r.f) := sh_of ok.f
theorem o_hs {r : Rq} (ok : OkR r) : HLOk r.hs := ⟨ok.n, ok.hs⟩
theorem rqC0_ex (zs : List Int) {r : Rq} (ok : OkR r) {e e2 : Bool} (he : r.hs.isEmpty = e) {E : Int} (h0 : 0 ≤ E) (h1 : E ≤ 40) : ∃ (r' : Rq) (x : Int), (OkR r' ∧ 0 ≤ x ∧ x ≤ E + 155) ∧ ∀ Q : Value → Option Obj → Prop, Q (rqV r') (some (strm (intsV zs) x)) → rqC0 (intsV zs) e e2 r E Q := by
  have hd : hdT e r.hs = hdV r.hs := by rw [← he]; exact hdT_eq _
  have b := (nextR_spec zs 6 (E + 1) (by omega) (by omega) (by omega) (by omega)).1
  by_cases c : nextR (intsV zs) E 12 = 0
  · refine ⟨_, E + 1 + 1, ⟨okR_of (o_m ok) (o_ho ok) (o_p ok) (o_q ok) (o_f ok) (o_hs ok), by omega, by omega⟩, fun Q hQ => dr_mk h0 (by omega) (pick_t (by rw [c]; rfl) (dr_mk (by omega) (by omega) (rg_mk (by omega) (by omega) rfl (by decide) ((rV_eq (a := gI odI (nextR (intsV zs) (E + 1) 6)) hd).symm ▸ hQ))))⟩
  · refine ⟨_, E + 1 + 1, ⟨okR_of (o_m ok) (o_ho ok) (o_p ok) (o_q ok) (o_f ok) (o_hs ok), by omega, by omega⟩, fun Q hQ => dr_mk h0 (by omega) (pick_f (by simpa using c) (dr_mk (by omega) (by omega) ((rV_eq (a := IntKind.i64.wrap (0 + nextR (intsV zs) (E + 1) 1001)) hd).symm ▸ hQ)))⟩
theorem rqC1_ex (zs : List Int) {r : Rq} (ok : OkR r) {e e2 : Bool} (he : r.hs.isEmpty = e) {E : Int} (h0 : 0 ≤ E) (h1 : E ≤ 40) : ∃ (r' : Rq) (x : Int), (OkR r' ∧ 0 ≤ x ∧ x ≤ E + 155) ∧ ∀ Q : Value → Option Obj → Prop, Q (rqV r') (some (strm (intsV zs) x)) → rqC1 (intsV zs) e e2 r E Q := by
  have hd : hdT e r.hs = hdV r.hs := by rw [← he]; exact hdT_eq _
  obtain ⟨g1, g2, g3, _⟩ := gsC_ok tt_gs zs h0 (by omega : E ≤ 60)
  exact ⟨_, _, ⟨okR_of g1 (o_ho ok) (o_p ok) (o_q ok) (o_f ok) (o_hs ok), g2, by omega⟩, fun Q hQ => gn_mk h0 (by omega) ((rV_eq hd).symm ▸ hQ)⟩
theorem rqC2_ex (zs : List Int) {r : Rq} (ok : OkR r) {e e2 : Bool} (he : r.hs.isEmpty = e) {E : Int} (h0 : 0 ≤ E) (h1 : E ≤ 40) : ∃ (r' : Rq) (x : Int), (OkR r' ∧ 0 ≤ x ∧ x ≤ E + 155) ∧ ∀ Q : Value → Option Obj → Prop, Q (rqV r') (some (strm (intsV zs) x)) → rqC2 (intsV zs) e e2 r E Q := by
  have hd : hdT e r.hs = hdV r.hs := by rw [← he]; exact hdT_eq _
  obtain ⟨g1, g2, g3, _⟩ := gsC_ok hn_gs zs h0 (by omega : E ≤ 60)
  exact ⟨_, _, ⟨okR_of (o_m ok) g1 (o_p ok) (o_q ok) (o_f ok) (o_hs ok), g2, by omega⟩, fun Q hQ => gn_mk h0 (by omega) ((rV_eq hd).symm ▸ hQ)⟩
theorem rqC3_ex (zs : List Int) {r : Rq} (ok : OkR r) {e e2 : Bool} (he : r.hs.isEmpty = e) {E : Int} (h0 : 0 ≤ E) (h1 : E ≤ 40) : ∃ (r' : Rq) (x : Int), (OkR r' ∧ 0 ≤ x ∧ x ≤ E + 155) ∧ ∀ Q : Value → Option Obj → Prop, Q (rqV r') (some (strm (intsV zs) x)) → rqC3 (intsV zs) e e2 r E Q := by
  have hd : hdT e r.hs = hdV r.hs := by rw [← he]; exact hdT_eq _
  obtain ⟨g1, g2, g3, _⟩ := gsC_ok pn_gs zs h0 (by omega : E ≤ 60)
  exact ⟨_, _, ⟨okR_of (o_m ok) (o_ho ok) g1 (o_q ok) (o_f ok) (o_hs ok), g2, by omega⟩, fun Q hQ => gn_mk h0 (by omega) ((rV_eq hd).symm ▸ hQ)⟩
theorem rqC4_ex (zs : List Int) {r : Rq} (ok : OkR r) {e e2 : Bool} (he : r.hs.isEmpty = e) {E : Int} (h0 : 0 ≤ E) (h1 : E ≤ 40) : ∃ (r' : Rq) (x : Int), (OkR r' ∧ 0 ≤ x ∧ x ≤ E + 155) ∧ ∀ Q : Value → Option Obj → Prop, Q (rqV r') (some (strm (intsV zs) x)) → rqC4 (intsV zs) e e2 r E Q := by
  have hd : hdT e r.hs = hdV r.hs := by rw [← he]; exact hdT_eq _
  obtain ⟨g1, g2, g3, _⟩ := gsC_ok qn_gs zs h0 (by omega : E ≤ 60)
  exact ⟨_, _, ⟨okR_of (o_m ok) (o_ho ok) (o_p ok) g1 (o_f ok) (o_hs ok), g2, by omega⟩, fun Q hQ => gn_mk h0 (by omega) ((rV_eq hd).symm ▸ hQ)⟩
theorem rqC5_ex (zs : List Int) {r : Rq} (ok : OkR r) {e e2 : Bool} (he : r.hs.isEmpty = e) {E : Int} (h0 : 0 ≤ E) (h1 : E ≤ 40) : ∃ (r' : Rq) (x : Int), (OkR r' ∧ 0 ≤ x ∧ x ≤ E + 155) ∧ ∀ Q : Value → Option Obj → Prop, Q (rqV r') (some (strm (intsV zs) x)) → rqC5 (intsV zs) e e2 r E Q := by
  have hd : hdT e r.hs = hdV r.hs := by rw [← he]; exact hdT_eq _
  obtain ⟨g1, g2, g3, _⟩ := gsC_ok ft_gs zs h0 (by omega : E ≤ 60)
  exact ⟨_, _, ⟨okR_of (o_m ok) (o_ho ok) (o_p ok) (o_q ok) g1 (o_hs ok), g2, by omega⟩, fun Q hQ => gn_mk h0 (by omega) ((rV_eq hd).symm ▸ hQ)⟩
theorem rqC6_ex (zs : List Int) {r : Rq} (ok : OkR r) {e e2 : Bool} (he : r.hs.isEmpty = e) {E : Int} (h0 : 0 ≤ E) (h1 : E ≤ 40) (he2 : (ghC 46 40 (intsV zs) E).1.isEmpty = e2) : ∃ (r' : Rq) (x : Int), (OkR r' ∧ 0 ≤ x ∧ x ≤ E + 155) ∧ ∀ Q : Value → Option Obj → Prop, Q (rqV r') (some (strm (intsV zs) x)) → rqC6 (intsV zs) e e2 r E Q := by
  have hd : hdT e r.hs = hdV r.hs := by rw [← he]; exact hdT_eq _
  obtain ⟨g1, g2, g3, _⟩ := ghC_ok hd_ex zs h0 h1
  have hd2 : hdT e2 (ghC 46 40 (intsV zs) E).1 = hdV (ghC 46 40 (intsV zs) E).1 := by rw [← he2]; exact hdT_eq _
  exact ⟨_, _, ⟨okR_of (o_m ok) (o_ho ok) (o_p ok) (o_q ok) (o_f ok) g1, g2, by omega⟩, fun Q hQ => gh_mk h0 h1 he2 ((rV_eq hd2).symm ▸ hQ)⟩
theorem rqC7_ex (zs : List Int) {r : Rq} (ok : OkR r) {e e2 : Bool} (he : r.hs.isEmpty = e) {E : Int} (h0 : 0 ≤ E) (h1 : E ≤ 40) : ∃ (r' : Rq) (x : Int), (OkR r' ∧ 0 ≤ x ∧ x ≤ E + 155) ∧ ∀ Q : Value → Option Obj → Prop, Q (rqV r') (some (strm (intsV zs) x)) → rqC7 (intsV zs) e e2 r E Q := by
  have hd : hdT e r.hs = hdV r.hs := by rw [← he]; exact hdT_eq _
  have b := (nextR_spec zs 2 E h0 (by omega) (by omega) (by omega)).1
  have hg : gI bdI (nextR (intsV zs) E 2) = 20000 ∨ gI bdI (nextR (intsV zs) E 2) = 20001 := by
    have : nextR (intsV zs) E 2 = 0 ∨ nextR (intsV zs) E 2 = 1 := by omega
    rcases this with q | q
    · rw [q]; exact .inl rfl
    · rw [q]; exact .inr rfl
  refine ⟨_, E + 1, ⟨okR_of (o_m ok) (o_ho ok) (o_p ok) (o_q ok) (o_f ok) (o_hs ok), by omega, by omega⟩, fun Q hQ => dr_mk h0 (by omega) (rg_mk h0 (by omega) rfl (by decide) (need_mk ?_ ((rV_eq (b := bl (Lib.repeatL (ByteArray.mk #[98]).data.toList (gI bdI (nextR (intsV zs) E 2)).toNat)) hd).symm ▸ hQ)))⟩
  rcases hg with q | q
  · rw [q]; decide
  · rw [q]; decide
theorem rqA_ex (zs : List Int) {r : Rq} (ok : OkR r) {e e2 : Bool} (he : r.hs.isEmpty = e) {D : Int} (h0 : 0 ≤ D) (h1 : D ≤ 38) {j : Int} (F : Array Value → Bool → Bool → Rq → Int → (Value → Option Obj → Prop) → Prop) (hj : nextR (intsV zs) D 6 = 0 → nextR (intsV zs) (D + 1) 8 = j)
    (hF : ∃ (r' : Rq) (x : Int), (OkR r' ∧ 0 ≤ x ∧ x ≤ D + 1 + 1 + 155) ∧ ∀ Q : Value → Option Obj → Prop, Q (rqV r') (some (strm (intsV zs) x)) → F (intsV zs) e e2 r (D + 1 + 1) Q) :
    ∃ (r' : Rq) (x : Int), (OkR r' ∧ 0 ≤ x ∧ x ≤ D + 160) ∧ ∀ Q : Value → Option Obj → Prop, Q (rqV r') (some (strm (intsV zs) x)) → rqA (intsV zs) e e2 j F r D Q := by
  by_cases c : nextR (intsV zs) D 6 = 0
  · obtain ⟨r', x, ⟨a1, a2, a3⟩, a4⟩ := hF
    exact ⟨r', x, ⟨a1, a2, by omega⟩, fun Q hQ => dr_mk h0 (by omega) (pick_t (by rw [c]; rfl) (drK_mk (by omega) (by omega) (hj c) (a4 Q hQ)))⟩
  · refine ⟨r, D + 1, ⟨ok, by omega, by omega⟩, fun Q hQ => dr_mk h0 (by omega) (pick_f (by simpa using c) ?_)⟩
    rw [← he, rqT_eq]
    exact hQ
theorem rq_fin {zs : List Int} {d : Int} {T : (Value → Option Obj → Prop) → Prop} {e e2 : Bool} {j : Int} (he : ∀ Q : Value → Option Obj → Prop, ffn Tryz.prog (SRq e e2 j) [] 3000 [] Tryz.f11 [.pointer (some ⟨0, 0, none⟩)] (Ev.h1 (strm (intsV zs) d)) (fun v h => Q v (h.get 0)) = T Q)
    (hx : ∃ (r' : Rq) (x : Int), (OkR r' ∧ 0 ≤ x ∧ x ≤ d + 180) ∧ ∀ Q : Value → Option Obj → Prop, Q (rqV r') (some (strm (intsV zs) x)) → T Q) : ∃ r, RrOK 11 180 (intsV zs) d r := by
  obtain ⟨r, x, ⟨a1, a2, a3⟩, a4⟩ := hx
  exact ⟨(r, x), a1, a2, a3, FnOK.ftree (SRq_ok e e2 j) mixed Tryz.func11 someRQ (he (fun u o => u = rqV r ∧ o = some (strm (intsV zs) x))) (a4 _ ⟨rfl, rfl⟩)⟩
theorem rqG_mk {zs : List Int} {d : Int} {e : Bool} (h0 : 0 ≤ d) (h1 : d ≤ 100) (he : (rrC 38 20 (intsV zs) d).1.hs.isEmpty = e) {X : Prop} (hX : X) : rqG (intsV zs) e d X := by
  refine need_mk ?_ hX
  rw [allInts_intsV, he]
  cases e <;> simp [h0, h1]
theorem rq_ex : RrEx 11 180 15 := by
  intro zs d h0 h1
  obtain ⟨ok, d0, d1, _⟩ := rrC_ok rr_ex zs h0 (by omega : d ≤ 100)
  have c8 : ∃ j : Int, (0 ≤ j ∧ j < 8) ∧ (nextR (intsV zs) (rrC 38 20 (intsV zs) d).2 6 = 0 → nextR (intsV zs) ((rrC 38 20 (intsV zs) d).2 + 1) 8 = j) :=
    ⟨_, (nextR_spec zs 8 ((rrC 38 20 (intsV zs) d).2 + 1) (by omega) (by omega) (by omega) (by omega)).1, fun _ => rfl⟩
  obtain ⟨j, hj, hq⟩ := c8
  have hk : j = 0 ∨ j = 1 ∨ j = 2 ∨ j = 3 ∨ j = 4 ∨ j = 5 ∨ j = 6 ∨ j = 7 := by omega
  have wrap : ∀ {e e2 : Bool} {F : Array Value → Bool → Bool → Rq → Int → (Value → Option Obj → Prop) → Prop} (he : (rrC 38 20 (intsV zs) d).1.hs.isEmpty = e),
      (∃ (r' : Rq) (x : Int), (OkR r' ∧ 0 ≤ x ∧ x ≤ (rrC 38 20 (intsV zs) d).2 + 1 + 1 + 155) ∧ ∀ Q : Value → Option Obj → Prop, Q (rqV r') (some (strm (intsV zs) x)) → F (intsV zs) e e2 (rrC 38 20 (intsV zs) d).1 ((rrC 38 20 (intsV zs) d).2 + 1 + 1) Q) →
      ∃ (r' : Rq) (x : Int), (OkR r' ∧ 0 ≤ x ∧ x ≤ d + 180) ∧ ∀ Q : Value → Option Obj → Prop, Q (rqV r') (some (strm (intsV zs) x)) → rqG (intsV zs) e d (rqA (intsV zs) e e2 j F (rrC 38 20 (intsV zs) d).1 (rrC 38 20 (intsV zs) d).2 Q) := by
    intro e e2 F he hF
    obtain ⟨r', x, ⟨a1, a2, a3⟩, a4⟩ := rqA_ex zs ok he d0 (by omega) F hq hF
    exact ⟨r', x, ⟨a1, a2, by omega⟩, fun Q hQ => rqG_mk h0 (by omega) he (a4 Q hQ)⟩
  cases he : (rrC 38 20 (intsV zs) d).1.hs.isEmpty
  · rcases hk with rfl | rfl | rfl | rfl | rfl | rfl | rfl | rfl
    · exact rq_fin (rq0_f (intsV zs) d) (wrap (e2 := false) he (rqC0_ex zs ok he (by omega) (by omega)))
    · exact rq_fin (rq1_f (intsV zs) d) (wrap (e2 := false) he (rqC1_ex zs ok he (by omega) (by omega)))
    · exact rq_fin (rq2_f (intsV zs) d) (wrap (e2 := false) he (rqC2_ex zs ok he (by omega) (by omega)))
    · exact rq_fin (rq3_f (intsV zs) d) (wrap (e2 := false) he (rqC3_ex zs ok he (by omega) (by omega)))
    · exact rq_fin (rq4_f (intsV zs) d) (wrap (e2 := false) he (rqC4_ex zs ok he (by omega) (by omega)))
    · exact rq_fin (rq5_f (intsV zs) d) (wrap (e2 := false) he (rqC5_ex zs ok he (by omega) (by omega)))
    · cases he2 : (ghC 46 40 (intsV zs) ((rrC 38 20 (intsV zs) d).2 + 1 + 1)).1.isEmpty
      · exact rq_fin (rq6_ff (intsV zs) d) (wrap he (rqC6_ex zs ok he (by omega) (by omega) he2))
      · exact rq_fin (rq6_ft (intsV zs) d) (wrap he (rqC6_ex zs ok he (by omega) (by omega) he2))
    · exact rq_fin (rq7_f (intsV zs) d) (wrap (e2 := false) he (rqC7_ex zs ok he (by omega) (by omega)))
  · rcases hk with rfl | rfl | rfl | rfl | rfl | rfl | rfl | rfl
    · exact rq_fin (rq0_t (intsV zs) d) (wrap (e2 := false) he (rqC0_ex zs ok he (by omega) (by omega)))
    · exact rq_fin (rq1_t (intsV zs) d) (wrap (e2 := false) he (rqC1_ex zs ok he (by omega) (by omega)))
    · exact rq_fin (rq2_t (intsV zs) d) (wrap (e2 := false) he (rqC2_ex zs ok he (by omega) (by omega)))
    · exact rq_fin (rq3_t (intsV zs) d) (wrap (e2 := false) he (rqC3_ex zs ok he (by omega) (by omega)))
    · exact rq_fin (rq4_t (intsV zs) d) (wrap (e2 := false) he (rqC4_ex zs ok he (by omega) (by omega)))
    · exact rq_fin (rq5_t (intsV zs) d) (wrap (e2 := false) he (rqC5_ex zs ok he (by omega) (by omega)))
    · cases he2 : (ghC 46 40 (intsV zs) ((rrC 38 20 (intsV zs) d).2 + 1 + 1)).1.isEmpty
      · exact rq_fin (rq6_tf (intsV zs) d) (wrap he (rqC6_ex zs ok he (by omega) (by omega) he2))
      · exact rq_fin (rq6_tt (intsV zs) d) (wrap he (rqC6_ex zs ok he (by omega) (by omega) he2))
    · exact rq_fin (rq7_t (intsV zs) d) (wrap (e2 := false) he (rqC7_ex zs ok he (by omega) (by omega)))
end Go.Proofs.YtnaeehnkabojdaaGreatDoor
