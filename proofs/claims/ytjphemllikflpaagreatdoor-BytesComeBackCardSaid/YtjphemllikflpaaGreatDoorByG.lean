/-
  Requests: which are right, as a specification.
-/
import Derived.Test.YtjphemllikflpaaGreatDoorByF
namespace Go.Proofs.YtjphemllikflpaaGreatDoor
open Go.Ev Go.RowKit RecLaw PathLaw QueryLaw

/-! isHost -/
theorem someHS : Tryz.f61.body.isSome = true := by kernel_rfl
noncomputable def runS (t : List UInt8 × List UInt8 × Int) : Bool := isBo (t.2.2 == 0) (arun Tryz.prog SH0.cfg 3000 Tryz.f61 [.string (bl t.1)] h0)
theorem sr0 : runS ([97, 46, 98], [97, 46, 98], 0) = true := by kernel_rfl
theorem sr1 : runS ([65, 46, 66], [97, 46, 98], 0) = true := by kernel_rfl
theorem sr2 : runS ([115, 104, 111, 112, 46, 101, 120, 97, 109, 112, 108, 101], [115, 104, 111, 112, 46, 101, 120, 97, 109, 112, 108, 101], 0) = true := by kernel_rfl
theorem sr3 : runS ([97, 46, 98, 58, 56, 48], [97, 46, 98], 0) = true := by kernel_rfl
theorem sr4 : runS ([97, 46, 98, 58, 52, 52, 51], [97, 46, 98], 0) = true := by kernel_rfl
theorem sr5 : runS ([97, 46, 98, 58, 56, 48, 56, 48], [97, 46, 98, 58, 56, 48, 56, 48], 0) = true := by kernel_rfl
theorem sr6 : runS ([120, 45, 49, 46, 121], [120, 45, 49, 46, 121], 0) = true := by kernel_rfl
theorem sr7 : runS ([49, 46, 50, 46, 51, 46, 52], [49, 46, 50, 46, 51, 46, 52], 0) = true := by kernel_rfl
theorem sr8 : runS ([99, 46, 100, 58, 56, 48, 56, 48], [99, 46, 100, 58, 56, 48, 56, 48], 0) = true := by kernel_rfl
theorem sr9 : runS ([], [], 3) = true := by kernel_rfl
theorem sr10 : runS ([97, 46, 46, 98], [], 3) = true := by kernel_rfl
theorem sr11 : runS ([45, 97, 46, 98], [], 3) = true := by kernel_rfl
theorem sr12 : runS ([97, 46, 98, 58, 48], [], 3) = true := by kernel_rfl
theorem sr13 : runS ([97, 46, 98, 58, 48, 56], [], 3) = true := by kernel_rfl
theorem sr14 : runS ([97, 46, 98, 58, 54, 53, 53, 51, 54], [], 3) = true := by kernel_rfl
theorem sr15 : runS ([97, 95, 98], [], 3) = true := by kernel_rfl
theorem sr16 : runS ([97, 46, 98, 58], [], 3) = true := by kernel_rfl
theorem sr17 : runS ([97, 32, 98], [], 3) = true := by kernel_rfl
theorem sr18 : runS ([97, 97, 97, 97, 97, 97, 97, 97, 97, 97, 97, 97, 97, 97, 97, 97, 97, 97, 97, 97, 97, 97, 97, 97, 97, 97, 97, 97, 97, 97, 97, 97, 97, 97, 97, 97, 97, 97, 97, 97, 97, 97, 97, 97, 97, 97, 97, 97, 97, 97, 97, 97, 97, 97, 97, 97, 97, 97, 97, 97, 97, 97, 97, 97], [], 3) = true := by kernel_rfl
theorem hs_runs : ∀ t ∈ hostT, runS t = true := by
  intro t ht
  simp only [hostT, List.mem_cons, List.not_mem_nil, or_false] at ht
  rcases ht with rfl | rfl | rfl | rfl | rfl | rfl | rfl | rfl | rfl | rfl | rfl | rfl | rfl | rfl | rfl | rfl | rfl | rfl | rfl
  · exact sr0
  · exact sr1
  · exact sr2
  · exact sr3
  · exact sr4
  · exact sr5
  · exact sr6
  · exact sr7
  · exact sr8
  · exact sr9
  · exact sr10
  · exact sr11
  · exact sr12
  · exact sr13
  · exact sr14
  · exact sr15
  · exact sr16
  · exact sr17
  · exact sr18
theorem hs_fn {s : List UInt8} (hs : s ∈ hosts) : FnOK 0 Tryz.prog 61 ⟨[.string (bl s)]⟩ h0 (fun u _ => u = .bool ((nhF s).2 == 0)) := by
  obtain ⟨t, ht, rfl⟩ := List.mem_map.1 hs
  obtain ⟨h', hr⟩ := isBo_eq (hs_runs t ht)
  rw [nhF_of t ht]
  exact (arun_ok SH0_ok mixed Tryz.func61 someHS hr).mono fun _ _ q => q.1
noncomputable def spHs (f : FuncId) (args : Array Value) (h : AH) : Option (Bool × Value × AH) :=
  cond (Nat.beq f 61) (match args with
    | ⟨[.string s]⟩ => some (inH s, .bool ((nhF s.data.toList).2 == 0), h)
    | _ => none) none
theorem spHs_ok : SpOK spHs := by
  intro f args h v h' hs
  unfold spHs at hs
  obtain ⟨hf, hs2⟩ := cond_some hs
  clear hs
  have := Nat.eq_of_beq_eq_true hf
  subst this
  split at hs2
  · injection hs2 with hs
    injection hs with hb hs
    injection hs with hv hh
    subst hv hh
    rename_i s
    have hw : s.data.toList ∈ hosts := by simpa [inH] using hb
    have := hs_fn hw
    rw [bl_self] at this
    exact ⟨FnOK.pure this rfl rfl h, Nat.le_refl _⟩
  · cases hs2

/-! CheckRequest -/
noncomputable def SCq : SC := ⟨idn, spOr spTk (spOr spHs (spOr spPf (spOr spQf (spOr spFq spCh)))), true, true⟩
theorem SCq_ok : SCq.cfg.OK Tryz.prog := (spTk_ok.or (spHs_ok.or (spPf_ok.or (spQf_ok.or (spFq_ok.or spCh_ok))))).cfg
theorem someCR : Tryz.f33.body.isSome = true := by kernel_rfl
def LE2 (s : ByteArray) : Bool := Nat.ble s.data.toList.length 20000
noncomputable def crT (m ho p q f b : ByteArray) (hv : Value) (Q : Value → Prop) : Prop :=
  bif LE2 m then bif !tokB m.data.toList then Q (.int .i64 5) else bif inH ho then bif !((nhF ho.data.toList).2 == 0) then Q (.int .i64 3) else
    bif LE2 p then bif pfC p.data.toList != 0 then Q (.int .i64 3) else bif LE2 q then bif qfC q.data.toList != 0 then Q (.int .i64 3) else bif !fldQ f.data.toList then Q (.int .i64 3) else
      bif okHd hv then bif chE (unH hv) != 0 then Q (.int .i64 (chE (unH hv))) else bif decide ((b.size : Int) > 20000) then Q (.int .i64 2) else Q (.int .i64 0) else False
    else False else False else False else False
theorem crq (a : Int) (m ho p q f b : ByteArray) (hv : Value) (Q : Value → Prop) : ffn Tryz.prog SCq [] 900 [] Tryz.f33 [.agg ⟨[.int .i64 a, .string m, .string ho, .string p, .string q, .string f, hv, .string b]⟩] h0 (fun v _ => Q v) =
    bif decide (a ≥ 0) then bif !decide (a < 345686400000) then Q (.int .i64 1) else crT m ho p q f b hv Q else Q (.int .i64 1) := by kernel_rfl
/-- A request as a value. -/
def rqV (r : Rq) : Value := .agg ⟨[.int .i64 r.at_, strV r.m, strV r.ho, strV r.p, strV r.q, strV r.f, hdV r.hs, strV r.bd]⟩
def unR (v : Value) : Rq := match v with
  | .agg ⟨[.int .i64 a, .string m, .string ho, .string p, .string q, .string f, hv, .string b]⟩ => ⟨a, m.data.toList, ho.data.toList, p.data.toList, q.data.toList, f.data.toList, unH hv, b.data.toList⟩
  | _ => zeroR
theorem unR_rq (r : Rq) : unR (rqV r) = r := by
  show (⟨r.at_, (bl r.m).data.toList, (bl r.ho).data.toList, (bl r.p).data.toList, (bl r.q).data.toList, (bl r.f).data.toList, unH (hdV r.hs), (bl r.bd).data.toList⟩ : Rq) = r
  rw [bl_list, bl_list, bl_list, bl_list, bl_list, bl_list, unH_hd]
theorem p2_rq (r : Rq) : p2 (rqV r) = true := by
  unfold rqV
  cases r.hs <;> rfl
theorem LE2_bl {l : List UInt8} (h : l.length ≤ 20000) : LE2 (bl l) = true := by unfold LE2; rw [bl_list]; exact Nat.ble_eq_true_of_le h
theorem cr_fn {r : Rq} (h : OkR r) : FnOK 0 Tryz.prog 33 ⟨[rqV r]⟩ h0 (fun v _ => v = .int .i64 (crE r)) := by
  refine FnOK.ftree SCq_ok mixed Tryz.func33 someCR (crq r.at_ (bl r.m) (bl r.ho) (bl r.p) (bl r.q) (bl r.f) (bl r.bd) (hdV r.hs) (fun v => v = .int .i64 (crE r))) ?_
  have hm := h.m; have hp := h.p; have hq := h.q
  unfold crE endT
  by_cases a0 : r.at_ ≥ 0
  · by_cases a1 : r.at_ < 345686400000
    · refine pick_t (decide_eq_true a0) (pick_f (by rw [decide_eq_true a1]; rfl) ?_)
      rw [if_pos ⟨a0, a1⟩]
      unfold crT
      rw [bl_list, bl_list, bl_list, bl_list, bl_list, unH_hd, bl_size]
      refine need_mk (LE2_bl (by omega)) ?_
      cases c1 : tokB r.m with
      | false => exact rfl
      | true =>
        rw [if_pos rfl]
        refine pick_f rfl (need_mk (by unfold inH; rw [bl_list]; simpa using h.ho) ?_)
        by_cases c2 : (nhF r.ho).2 = 0
        · rw [if_pos c2]
          refine pick_f (by rw [c2]; rfl) (need_mk (LE2_bl (by omega)) ?_)
          unfold pfC qfC
          cases c3 : okP r.p with
          | false => exact rfl
          | true =>
            rw [if_pos rfl, if_pos rfl]
            refine pick_f rfl (need_mk (LE2_bl (by omega)) ?_)
            cases c4 : okQ r.q with
            | false => exact rfl
            | true =>
              rw [if_pos rfl, if_pos rfl]
              refine pick_f rfl ?_
              cases c5 : fldQ r.f with
              | false => exact rfl
              | true =>
                rw [if_pos rfl]
                refine pick_f rfl (need_mk (okHd_iff.2 ⟨_, ⟨?_, h.hs⟩, rfl⟩) ?_)
                · have := h.n; omega
                · by_cases c6 : chE r.hs = 0
                  · rw [if_pos c6]
                    refine pick_f (by rw [c6]; rfl) ?_
                    by_cases c7 : r.bd.length > 20000
                    · rw [if_pos c7]; exact pick_t (decide_eq_true (by omega)) rfl
                    · rw [if_neg c7]; exact pick_f (decide_eq_false (by omega)) rfl
                  · rw [if_neg c6]
                    exact pick_t (by simpa using c6) rfl
        · rw [if_neg c2]
          exact pick_t (by simpa using c2) rfl
    · rw [if_neg (fun q => a1 q.2)]
      exact pick_t (decide_eq_true a0) (pick_t (by rw [decide_eq_false a1]; rfl) rfl)
  · rw [if_neg (fun q => a0 q.1)]
    exact pick_f (decide_eq_false a0) rfl
open Classical in
noncomputable def okRq (v : Value) : Bool := @decide (∃ r, OkR r ∧ v = rqV r) (Classical.propDecidable _)
open Classical in
theorem okRq_iff {v : Value} : okRq v = true ↔ ∃ r, OkR r ∧ v = rqV r := by unfold okRq; exact decide_eq_true_iff
noncomputable def spCr (f : FuncId) (args : Array Value) (h : AH) : Option (Bool × Value × AH) :=
  cond (Nat.beq f 33) (match args with
    | ⟨[v]⟩ => some (okRq v, .int .i64 (crE (unR v)), h)
    | _ => none) none
theorem spCr_ok : SpOK spCr := by
  intro f args h v h' hs
  unfold spCr at hs
  obtain ⟨hf, hs2⟩ := cond_some hs
  clear hs
  have := Nat.eq_of_beq_eq_true hf
  subst this
  split at hs2
  · injection hs2 with hs
    injection hs with hb hs
    injection hs with hv hh
    subst hv hh
    rename_i v
    obtain ⟨r, hr, rfl⟩ := okRq_iff.1 hb
    rw [unR_rq]
    exact ⟨FnOK.pure (cr_fn hr) (by show (p2 _ && true) = true; rw [p2_rq]; rfl) rfl h, Nat.le_refl _⟩
  · cases hs2
end Go.Proofs.YtjphemllikflpaaGreatDoor
