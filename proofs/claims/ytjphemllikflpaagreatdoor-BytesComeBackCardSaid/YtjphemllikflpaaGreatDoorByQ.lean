/-
  Bytes: right values are right.
-/
import Derived.Test.YtjphemllikflpaaGreatDoorByO
namespace Go.Proofs.YtjphemllikflpaaGreatDoor
open Go.Ev Go.RowKit RecLaw PathLaw QueryLaw BytesLaw

/-! CheckHeaders, CheckRequest, CheckResponse -/
theorem chZ (Q : Value → Prop) : ffn Tryz.prog SCh [] 600 [] Tryz.f65 [fz ⟨[]⟩] h0 (fun v _ => Q v) = Q (.int .i64 0) := by kernel_rfl
theorem chL_ok : ∀ {L : List (Bs × Bs)}, (∀ p ∈ L, tokB p.1 = true ∧ fldQ p.2 = true) → chL L = 0
  | [], _ => rfl
  | p :: L, h => by
    rw [chL, if_pos (h p (by simp)).1, if_pos (h p (by simp)).2]
    exact chL_ok fun q hq => h q (List.mem_cons_of_mem p hq)
theorem chE_ok {L : List (Bs × Bs)} (h : HsOk L) (hn : L.length ≤ 4) : chE L = 0 := chE_iff.2 ⟨by omega, chL_ok fun p hp => ⟨(nm_ok _ (h p hp).1).2.2.1, (va_ok _ (h p hp).2).2⟩⟩
theorem ch_len {L : List (Bs × Bs)} (h : HsOk L) : ∀ p ∈ L, p.1.length ≤ 10000 ∧ p.2.length ≤ 10000 := fun p hp => by
  have a := (nm_ok _ (h p hp).1).2.1
  have b := (va_ok _ (h p hp).2).1
  omega
/-- What is known of a list of headers. -/
def HvOk (hv : Value) : Prop := p2 hv = true ∧ p3 hv = true ∧ FnOK 0 Tryz.prog 65 ⟨[hv]⟩ h0 (fun v _ => v = .int .i64 0)
theorem hv_hd {L : List (Bs × Bs)} (h : HsOk L) (hn : L.length ≤ 4) : HvOk (hdV L) := by
  refine ⟨p2_hd L, by cases L <;> rfl, ?_⟩
  have := ch_fn (L := L) (by omega) (ch_len h)
  rw [chE_ok h hn] at this
  exact this
theorem hv_fz {L : List (Bs × Bs)} (h : HsOk L) (hn : L.length ≤ 4) : HvOk (fz ⟨L.map prV⟩) := by
  cases L with
  | nil => exact ⟨rfl, rfl, FnOK.ftree SCh_ok mixed Tryz.func65 someCH (chZ (fun v => v = .int .i64 0)) rfl⟩
  | cons p l => exact hv_hd h hn
noncomputable def SCv (hv : Value) : SC := ⟨idn, spOr spTk (spOr spHs (spOr spPf (spOr spQf (spOr spFq (spT 65 [hv] (.int .i64 0)))))), true, true⟩
theorem SCv_ok {hv : Value} (h : HvOk hv) : (SCv hv).cfg.OK Tryz.prog := (spTk_ok.or (spHs_ok.or (spPf_ok.or (spQf_ok.or (spFq_ok.or (spT_ok (xs := [hv]) h.2.2 (by show (p2 hv && true) = true; rw [h.1]; rfl) rfl)))))).cfg
noncomputable def cvT (m ho p q f b : ByteArray) (hv : Value) (Q : Value → Prop) : Prop :=
  bif LE2 m then bif !tokB m.data.toList then Q (.int .i64 5) else bif inH ho then bif !((nhF ho.data.toList).2 == 0) then Q (.int .i64 3) else
    bif LE2 p then bif pfC p.data.toList != 0 then Q (.int .i64 3) else bif LE2 q then bif qfC q.data.toList != 0 then Q (.int .i64 3) else bif !fldQ f.data.toList then Q (.int .i64 3) else
      tqT [hv] (bif decide ((b.size : Int) > 20000) then Q (.int .i64 2) else Q (.int .i64 0))
    else False else False else False else False
theorem cvq (a : Int) (m ho p q f b : ByteArray) (hv : Value) (Q : Value → Prop) : ffn Tryz.prog (SCv hv) [] 900 [] Tryz.f33 [rV a m ho p q f b hv] h0 (fun v _ => Q v) =
    bif decide (a ≥ 0) then bif !decide (a < 345686400000) then Q (.int .i64 1) else cvT m ho p q f b hv Q else Q (.int .i64 1) := by kernel_rfl
/-- A request, its headers as a value. -/
def rqW (r : Rq) (hv : Value) : Value := rV 0 (bl r.m) (bl r.ho) (bl r.p) (bl r.q) ⟨#[]⟩ (bl r.bd) hv
theorem fq_nil : fldQ (ByteArray.mk #[]).data.toList = true := by decide
theorem cv_fn {r : Rq} (h : RtR r) {hv : Value} (hh : HvOk hv) : FnOK 0 Tryz.prog 33 ⟨[rqW r hv]⟩ h0 (fun v _ => v = .int .i64 0) := by
  refine FnOK.ftree (SCv_ok hh) mixed Tryz.func33 someCR (cvq 0 (bl r.m) (bl r.ho) (bl r.p) (bl r.q) ⟨#[]⟩ (bl r.bd) hv (fun v => v = .int .i64 0)) ?_
  obtain ⟨_, _, _, a4, a5⟩ := me_ok _ h.m
  obtain ⟨b1, b2, _, b4⟩ := ho_ok _ h.ho
  obtain ⟨_, _, _, _, c5, c6⟩ := pa_ok _ h.p
  obtain ⟨_, _, d3, d4⟩ := qu_ok _ h.q
  have e := (bo_ok _ h.bd).1
  refine pick_t rfl (pick_f rfl ?_)
  unfold cvT
  rw [bl_list, bl_list, bl_list, bl_list, bl_size]
  unfold pfC qfC
  refine need_mk (LE2_bl (by omega)) (pick_f (by rw [a5]; rfl) (need_mk (by unfold inH; rw [bl_list]; simpa using b1) (pick_f (by rw [b4]; rfl) (need_mk (LE2_bl (by omega)) (pick_f (by rw [c6]; rfl) (need_mk (LE2_bl (by omega)) (pick_f (by rw [d4]; rfl) (pick_f (by rw [fq_nil]; rfl) (tqT_mk (pick_f (decide_eq_false (by omega)) rfl))))))))))
noncomputable def SCw (hv : Value) : SC := ⟨idn, spT 65 [hv] (.int .i64 0), true, true⟩
theorem SCw_ok {hv : Value} (h : HvOk hv) : (SCw hv).cfg.OK Tryz.prog := (spT_ok (xs := [hv]) h.2.2 (by show (p2 hv && true) = true; rw [h.1]; rfl) rfl).cfg
theorem csq (st : Int) (hv : Value) (b : ByteArray) (Q : Value → Prop) : ffn Tryz.prog (SCw hv) [] 900 [] Tryz.f41 [sV st hv b] h0 (fun v _ => Q v) =
    bif decide (st < 100) then Q (.int .i64 1) else bif decide (st > 599) then Q (.int .i64 1) else tqT [hv] (bif decide ((b.size : Int) > 20000) then Q (.int .i64 2) else Q (.int .i64 0)) := by kernel_rfl
theorem someCRS : Tryz.f41.body.isSome = true := by kernel_rfl
theorem st_range : ∀ n ∈ stI, 100 ≤ n ∧ n ≤ 599 := by decide
theorem cs_fn {r : Rs} (h : RtS r) {hv : Value} (hh : HvOk hv) : FnOK 0 Tryz.prog 41 ⟨[sV r.st hv (bl r.bd)]⟩ h0 (fun v _ => v = .int .i64 0) := by
  refine FnOK.ftree (SCw_ok hh) mixed Tryz.func41 someCRS (csq r.st hv (bl r.bd) (fun v => v = .int .i64 0)) ?_
  have a := st_range _ h.st
  have b := (bs_ok _ h.bd).1
  rw [bl_size]
  exact pick_f (decide_eq_false (by omega)) (pick_f (decide_eq_false (by omega)) (tqT_mk (pick_f (decide_eq_false (by omega)) rfl)))
end Go.Proofs.YtjphemllikflpaaGreatDoor
