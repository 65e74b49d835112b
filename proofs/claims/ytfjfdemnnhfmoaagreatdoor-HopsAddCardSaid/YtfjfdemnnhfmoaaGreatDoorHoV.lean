/-
  Headers: the law.
-/
import Derived.Test.YtfjfdemnnhfmoaaGreatDoorHoU
namespace Go.Proofs.YtfjfdemnnhfmoaaGreatDoor
open Go.Ev Go.RowKit RecLaw PathLaw HopLaw

noncomputable def eqV (a b : Value) : Bool := @decide (a = b) (Classical.propDecidable _)
theorem eqV_eq {a b : Value} (h : eqV a b = true) : a = b := @of_decide_eq_true (a = b) (Classical.propDecidable _) h
theorem eqV_self (a : Value) : eqV a a = true := @decide_eq_true (a = a) (Classical.propDecidable _) rfl
noncomputable def spRq (zs : List Int) (r : Rq) (d : Int) (f : FuncId) (args : Array Value) (h : AH) : Option (Bool × Value × AH) :=
  cond (Nat.beq f 17) (match args with
    | ⟨[.pointer (some ⟨b, 0, none⟩)]⟩ => match h.get b with
      | some (.cells ⟨[x, .int .i64 at_]⟩ t (0, 0)) => some (eqV x (fz (intsV zs)) && Nat.beq t 25 && decide (at_ = 0), r.v, h.set b (strm (intsV zs) d))
      | _ => none
    | _ => none) none
theorem spRq_ok {zs : List Int} {r : Rq} {d : Int} (hr : ∀ Q : Value → Option Obj → Prop, Q r.v (some (strm (intsV zs) d)) → rrT (intsV zs) 0 Q) : SpOK (spRq zs r d) := by
  intro f args h v h' hs
  unfold spRq at hs
  obtain ⟨hf, hs2⟩ := cond_some hs
  clear hs
  have := Nat.eq_of_beq_eq_true hf
  subst this
  split at hs2
  · rename_i b
    split at hs2
    · rename_i x at_ t hg
      injection hs2 with hs
      injection hs with hb hs
      injection hs with hv hh
      subst hv hh
      simp only [Bool.and_eq_true, decide_eq_true_eq] at hb
      obtain ⟨⟨b1, b2⟩, rfl⟩ := hb
      have := eqV_eq b1
      subst this
      have b2 := Nat.eq_of_beq_eq_true b2
      subst b2
      exact ⟨FnOK.ref (cs := ⟨[fz (intsV zs), .int .i64 0]⟩) (cs' := ⟨[fz (intsV zs), .int .i64 d]⟩) (args := []) (rr_fn hr) rfl (by simp [p1, fz]) (by simp [p1, fz]) rfl hg, Nat.le_refl _⟩
    · cases hs2
  · cases hs2
/-- A call of Forward, its argument and its result told; n: how many blocks there are. -/
noncomputable def spFt (n : Nat) (a res : Value) (f : FuncId) (args : Array Value) (h : AH) : Option (Bool × Value × AH) :=
  cond (Nat.beq f 18 && Nat.beq h.blocks.length n) (match args with
    | ⟨[x, .string s]⟩ => some (eqV x a && eqV (.string s) (.string gateB), res, h)
    | _ => none) none
theorem spFt_ok {n : Nat} {a res : Value} (hF : FnOK 0 Tryz.prog 18 ⟨[a, .string gateB]⟩ h0 (fun v _ => v = res)) (ha : p2 a = true) (hv : p3 res = true) : SpOK (spFt n a res) := by
  intro f args h v h' hs
  unfold spFt at hs
  obtain ⟨hf, hs2⟩ := cond_some hs
  clear hs
  rw [Bool.and_eq_true] at hf
  have := Nat.eq_of_beq_eq_true hf.1
  subst this
  split at hs2
  · rename_i x s
    injection hs2 with hs
    injection hs with hb hs
    injection hs with hv hh
    subst hv hh
    simp only [Bool.and_eq_true, decide_eq_true_eq] at hb
    have h1 := eqV_eq hb.1
    have h2 := eqV_eq hb.2
    injection h2 with h2
    subst h1 h2
    exact ⟨FnOK.pure hF (by show (p2 x && (true && true)) = true; rw [ha]; rfl) hv h, Nat.le_refl _⟩
  · cases hs2
noncomputable def Rq.c (r : Rq) : Value := rqV r.a r.m r.ho r.p r.q lastB r.s r.bd
noncomputable def spCl (r : Rq) (c : Value) (f : FuncId) (args : Array Value) (h : AH) : Option (Bool × Value × AH) :=
  cond (Nat.beq f 19) (match args with
    | ⟨[x, .slice (some ⟨b, 0, none⟩) 1 1]⟩ => match h.get b with
      | some (.cells ⟨[y]⟩ t (0, 0)) => some (eqV x r.c && eqV y (.string lastB) && Nat.beq t 9, .tuple ⟨[c, .int .i64 0]⟩, h)
      | _ => none
    | _ => none) none
theorem spCl_ok {r : Rq} {c : Value} (hF : FnOK 1 Tryz.prog 19 ⟨[r.c, clA]⟩ clG (fun v g => v = .tuple ⟨[c, .int .i64 0]⟩ ∧ g.get 0 = clO)) (hc : p2 c = true) : SpOK (spCl r c) := by
  intro f args h v h' hs
  unfold spCl at hs
  obtain ⟨hf, hs2⟩ := cond_some hs
  clear hs
  have := Nat.eq_of_beq_eq_true hf
  subst this
  split at hs2
  · rename_i x b
    split at hs2
    · rename_i y t hg
      injection hs2 with hs
      injection hs with hb hs
      injection hs with hv hh
      subst hv hh
      simp only [Bool.and_eq_true, decide_eq_true_eq] at hb
      obtain ⟨⟨b1, b2⟩, b3⟩ := hb
      have b1 := eqV_eq b1
      have b2 := eqV_eq b2
      have b3 := Nat.eq_of_beq_eq_true b3
      subst b1 b2 b3
      refine ⟨?_, Nat.le_refl _⟩
      refine FnOK.reads (r := [(b, 0)]) (bl := clG.blocks) (small := [r.c, clA]) (by simp [renOk, renB, invB, eqO]) (by simp [ren2s, ren2, ren1, renL, ren0, renB, p1, Rq.c, rqV, clA, fz]) ?_ ?_ (hF.mono ?_) (by show (p2 c && (true && true)) = true; rw [hc]; rfl)
      · intro i o hi
        simp only [clG, clB, look] at hi
        obtain ⟨h1, h2⟩ := cond_some hi
        cases h2
        exact ⟨b, by rw [Nat.eq_of_beq_eq_true h1]; simp, hg⟩
      · intro i o hi
        simp only [clG, clB, look] at hi
        obtain ⟨h1, h2⟩ := cond_some hi
        cases h2
        exact ⟨_, _, _, rfl, by intro x hx; simp at hx; subst hx; rfl⟩
      · rintro v g ⟨rfl, hg2⟩
        refine ⟨rfl, fun i o hi => ?_⟩
        simp only [clG, clB, look] at hi
        obtain ⟨h1, h2⟩ := cond_some hi
        cases h2
        rw [← Nat.eq_of_beq_eq_true h1]
        exact hg2
    · cases hs2
  · cases hs2
noncomputable def SLw (zs : List Int) (r : Rq) (d : Int) (res c : Value) : SC := ⟨idn, spOr spReady (spOr (spRq zs r d) (spOr (spFt 2 r.v res) (spOr (spFt 3 (rqV r.a r.m r.ho r.p r.q r.f r.s r.bd) (eR 14)) (spCl r c)))), true, true⟩
theorem SLw_ok {zs : List Int} {r : Rq} {d : Int} {res c : Value} (hr : ∀ Q : Value → Option Obj → Prop, Q r.v (some (strm (intsV zs) d)) → rrT (intsV zs) 0 Q) (ho : r.ok) (hw : fwV r.a r.m r.ho r.p r.q r.f r.bd gateB r.l = res) (hv : p3 res = true)
    (hF : FnOK 1 Tryz.prog 19 ⟨[r.c, clA]⟩ clG (fun v g => v = .tuple ⟨[c, .int .i64 0]⟩ ∧ g.get 0 = clO)) (hc : p2 c = true) : (SLw zs r d res c).cfg.OK Tryz.prog :=
  (spReady_ok.or ((spRq_ok hr).or ((spFt_ok (hw ▸ fw_r ho) rfl hv).or ((spFt_ok (fw2_r ho) rfl rfl).or (spCl_ok hF hc))))).cfg
theorem someLW : Tryz.f4.body.isSome = true := by kernel_rfl
noncomputable def lwA (zs : List Int) (r : Rq) (X : Prop) : Prop :=
  bif eqV (fz (intsV zs)) (fz (intsV zs)) && Nat.beq 25 25 && decide ((0 : Int) = 0) then bif eqV r.v r.v && eqV (.string gateB) (.string gateB) then X else False else False
noncomputable def Rq.sv (r : Rq) : Value := rqV r.a r.m r.ho r.p r.q r.f r.s r.bd
noncomputable def lwB (r : Rq) (X : Prop) : Prop :=
  bif eqV r.sv r.sv && eqV (.string gateB) (.string gateB) then bif eqV r.c r.c && eqV (.string lastB) (.string lastB) && Nat.beq 9 9 then X else False else False
noncomputable def Rq.w (r : Rq) : Value := .tuple ⟨[r.sv, .int .i64 0]⟩
theorem lwA_mk (zs : List Int) (r : Rq) {X : Prop} (h : X) : lwA zs r X := need_mk (by rw [eqV_self]; rfl) (need_mk (by rw [eqV_self, eqV_self]; rfl) h)
theorem lwB_mk (r : Rq) {X : Prop} (h : X) : lwB r X := need_mk (by rw [eqV_self, eqV_self]; rfl) (need_mk (by rw [eqV_self, eqV_self]; rfl) h)
theorem lw14 (zs : List Int) (r : Rq) (d : Int) (Q : Value → Prop) : ffn Tryz.prog (SLw zs r d (eR 14) anyV) [] 3000 [] Tryz.f4 [fz (intsV zs)] h0 (fun v _ => Q v) = lwA zs r (Q (.bool true)) := by kernel_rfl
theorem lw2 (zs : List Int) (r : Rq) (d : Int) (Q : Value → Prop) : ffn Tryz.prog (SLw zs r d (eR 2) anyV) [] 3000 [] Tryz.f4 [fz (intsV zs)] h0 (fun v _ => Q v) = lwA zs r (Q (.bool true)) := by kernel_rfl
theorem lwN (zs : List Int) (r : Rq) (d : Int) (Q : Value → Prop) : ffn Tryz.prog (SLw zs r d r.w anyV) [] 3000 [] Tryz.f4 [fz (intsV zs)] h0 (fun v _ => Q v) =
    lwA zs r (lwB r (bif r.f.toList == (ByteArray.mk #[]).toList then Q (.bool true) else False)) := by kernel_rfl
theorem lwS (zs : List Int) (r : Rq) (d : Int) (c : ByteArray) (Q : Value → Prop) : ffn Tryz.prog (SLw zs r d r.w (.string c)) [] 3000 [] Tryz.f4 [fz (intsV zs)] h0 (fun v _ => Q v) =
    lwA zs r (lwB r (bif r.f.toList == (ByteArray.mk #[]).toList then Q (.bool true) else bif (bif false then true else c.toList == r.f.toList) then Q (.bool true) else Q (.bool false))) := by kernel_rfl
theorem any1 {p : Nat} {P : Program} {h : AH} (v x : Value) : Weak p P #[v, x] h #[anyV, x] h := fun N w t hτ hH hf =>
  ⟨N, ⟨hτ.1, fun i a a' h1 h2 => by
    match i with
    | 0 => cases h1; exact .any _
    | 1 => exact hτ.2 1 a a' h1 h2
    | i + 2 => simp at h1⟩, hH, hf, WX.refl p N h w⟩
theorem cl_any {r : Rq} (h : r.ok) : FnOK 1 Tryz.prog 19 ⟨[r.c, clA]⟩ clG (fun v g => v = .tuple ⟨[anyV, .int .i64 0]⟩ ∧ g.get 0 = clO) :=
  FnOK.weakT ((cl_r h).mono fun v g ⟨⟨c, e, _⟩, hg⟩ => ⟨_, _, g, e, any1 _ _, rfl, hg⟩)
theorem Rq.from {r : Rq} (h : r.ok) : okFrom r.f = true := by
  have h1 := h.1
  unfold okReq at h1
  simp only [Bool.and_eq_true] at h1
  exact h1.2
theorem cl_is {r : Rq} (h : r.ok) (hne : r.f.data.toList ≠ []) : FnOK 1 Tryz.prog 19 ⟨[r.c, clA]⟩ clG (fun v g => v = .tuple ⟨[.string r.f, .int .i64 0]⟩ ∧ g.get 0 = clO) := by
  obtain ⟨h1, h2, h3⟩ := Rq.req h
  have hf := Rq.from h
  unfold okFrom at hf
  have he : r.f.data.toList.isEmpty = false := by cases hl : r.f.data.toList with
    | nil => exact absurd hl hne
    | cons => rfl
  rw [he, Bool.false_or, Bool.and_eq_true] at hf
  have h44 : (44 : UInt8) ∉ r.f.data.toList := by
    intro hm
    have := hf.1
    rw [List.contains_iff_mem.2 hm] at this
    cases this
  have ht : toldS r.f = false := by simpa using hf.2
  obtain ⟨q, hq⟩ := sent_xff h.2 gate_ok.2.1 h2 h3 hne h44
  refine (cl_r h).mono ?_
  rintro v g ⟨⟨c, rfl, hc⟩, hg⟩
  have := hc q r.f.data.toList hq (by rw [bl_self]; exact ht)
  rw [bl_self] at this
  exact ⟨by rw [this], hg⟩
theorem law_ok (zs : List Int) : FnOK 0 Tryz.prog 4 ⟨[fz (intsV zs)]⟩ h0 (fun v _ => v = .bool true) := by
  obtain ⟨r, d, ho, hr⟩ := rr_ex2 zs
  have hv : fwV r.a r.m r.ho r.p r.q r.f r.bd gateB r.l = eR 14 ∨ fwV r.a r.m r.ho r.p r.q r.f r.bd gateB r.l = eR 2 ∨ fwV r.a r.m r.ho r.p r.q r.f r.bd gateB r.l = r.w := by
    unfold fwV
    cases hasS ((partsB (vB viaB r.l)).map strV) gateB with
    | true => exact .inl rfl
    | false =>
      cases decide (20 ≤ (partsB (vB viaB r.l)).length) with
      | true => exact .inr (.inl rfl)
      | false =>
        cases bigV (sent gateB r.ho r.f r.l) with
        | true => exact .inr (.inl rfl)
        | false => exact .inr (.inr rfl)
  rcases hv with hv | hv | hv
  · exact FnOK.ftree (SLw_ok hr ho hv rfl (cl_any ho) rfl) mixed Tryz.func4 someLW (lw14 zs r d _) (lwA_mk zs r rfl)
  · exact FnOK.ftree (SLw_ok hr ho hv rfl (cl_any ho) rfl) mixed Tryz.func4 someLW (lw2 zs r d _) (lwA_mk zs r rfl)
  · by_cases hne : r.f.data.toList = []
    · have e : r.f = ⟨#[]⟩ := by rw [← bl_self r.f, hne]; rfl
      refine FnOK.ftree (SLw_ok hr ho hv rfl (cl_any ho) rfl) mixed Tryz.func4 someLW (lwN zs r d _) (lwA_mk zs r (lwB_mk r (need_mk ?_ rfl)))
      rw [e, beq_self_eq_true]
    · refine FnOK.ftree (SLw_ok hr ho hv rfl (cl_is ho hne) rfl) mixed Tryz.func4 someLW (lwS zs r d r.f _) (lwA_mk zs r (lwB_mk r ?_))
      cases r.f.toList == (ByteArray.mk #[]).toList with
      | true => rfl
      | false => exact pick_f rfl (pick_t (by rw [beq_self_eq_true]; rfl) rfl)
end Go.Proofs.YtfjfdemnnhfmoaaGreatDoor
