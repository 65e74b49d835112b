/-
  Limits: what is wrong with asks.
-/
import Derived.Test.YtbigicdojndnjaaGreatDoorLkA
namespace Go.Proofs.YtbigicdojndnjaaGreatDoor
open Go.Ev Go.RowKit LimLaw

def frN (a : A4) : Int := if 0 ≤ a.1 ∧ a.1 ≤ 345686399999 then if inU whoU a.2.1 = true then if 1 ≤ a.2.2.1 ∧ a.2.2.1 ≤ 1000000000 ∧ 0 ≤ a.2.2.2 ∧ a.2.2.2 ≤ 345686400000 then 0 else 1 else 5 else 1
theorem frN_ok {a : A4} (h : frN a = 0) : akOK a = true := by
  unfold frN at h
  split at h
  · split at h
    · split at h
      · rename_i h1 h2 h3
        unfold akOK
        simp only [Bool.and_eq_true, decide_eq_true_eq]
        exact ⟨⟨⟨⟨⟨⟨h1.1, by omega⟩, h2⟩, h3.1⟩, h3.2.1⟩, h3.2.2.1⟩, h3.2.2.2⟩
      · cases h
    · cases h
  · cases h
theorem frT_mk {key : Bool} {t c l : Int} {w : ByteArray} {Q : Value → Prop} (hk : inU whoU w = key) (hQ : Q (.int .i64 (frN (t, w, c, l)))) : frT key t c l Q := by
  unfold frN at hQ
  simp only at hQ
  unfold frT
  by_cases h1 : 0 ≤ t
  · refine pick_t (decide_eq_true h1) ?_
    by_cases h2 : t ≤ 345686399999
    · refine pick_f (by simp [h2]) ?_
      rw [if_pos ⟨h1, h2⟩, hk] at hQ
      cases key with
      | false => exact hQ
      | true =>
        rw [if_pos rfl] at hQ
        refine pick_t rfl ?_
        by_cases h3 : 1 ≤ c
        · refine pick_t (decide_eq_true h3) ?_
          by_cases h4 : c ≤ 1000000000
          · refine pick_f (by simp [h4]) ?_
            by_cases h5 : 0 ≤ l
            · refine pick_t (decide_eq_true h5) ?_
              by_cases h6 : l ≤ 345686400000
              · refine pick_f (by simp [h6]) ?_
                rw [if_pos ⟨h3, h4, h5, h6⟩] at hQ
                exact hQ
              · refine pick_t (by simp [h6]) ?_
                rw [if_neg (by omega)] at hQ
                exact hQ
            · refine pick_f (decide_eq_false h5) ?_
              rw [if_neg (by omega)] at hQ
              exact hQ
          · refine pick_t (by simp [h4]) ?_
            rw [if_neg (by omega)] at hQ
            exact hQ
        · refine pick_f (decide_eq_false h3) ?_
          rw [if_neg (by omega)] at hQ
          exact hQ
    · refine pick_t (by simp [h2]) ?_
      rw [if_neg (by omega)] at hQ
      exact hQ
  · refine pick_f (decide_eq_false h1) ?_
    rw [if_neg (by omega)] at hQ
    exact hQ
theorem fr_fn {a : A4} (h : inU whoQ a.2.1 = true) : FnOK 0 Tryz.prog 32 ⟨[akV a]⟩ h0 (fun v _ => v = .int .i64 (frN a)) := by
  obtain ⟨t, w, c, l⟩ := a
  have hw := inU_mem h
  simp only [whoQ, List.mem_cons, List.not_mem_nil, or_false] at hw
  rcases hw with rfl | rfl | rfl | rfl
  · exact FnOK.ftree SI_ok mixed Tryz.func32 someQF (fr0 t c l _) (frT_mk (by decide +kernel) rfl)
  · exact FnOK.ftree SI_ok mixed Tryz.func32 someQF (fr1 t c l _) (frT_mk (by decide +kernel) rfl)
  · exact FnOK.ftree SI_ok mixed Tryz.func32 someQF (fr2 t c l _) (frT_mk (by decide +kernel) rfl)
  · exact FnOK.ftree SI_ok mixed Tryz.func32 someQF (fr3 t c l _) (frT_mk (by decide +kernel) rfl)
noncomputable def frS (a : A4) : Int := frN a
noncomputable def spQf (f : FuncId) (args : Array Value) (h : AH) : Option (Bool × Value × AH) :=
  cond (Nat.beq f 32) (match args with
    | ⟨[.agg ⟨[.int .i64 t, .string w, .int .i64 c, .int .i64 l]⟩]⟩ => some (inU whoQ w, .int .i64 (frN (t, w, c, l)), h)
    | _ => none) none
theorem spQf_ok : SpOK spQf := by
  intro f args h v h' hs
  unfold spQf at hs
  obtain ⟨hf, hs2⟩ := cond_some hs
  clear hs
  have := Nat.eq_of_beq_eq_true hf
  subst this
  split at hs2
  · injection hs2 with hs
    injection hs with hb hs
    injection hs with hv hh
    subst hv hh
    exact ⟨FnOK.pure (fr_fn (a := (_, _, _, _)) hb) rfl rfl h, Nat.le_refl _⟩
  · cases hs2
noncomputable def SQf : SC := ⟨idn, spQf, true, true⟩
theorem SQf_ok : SQf.cfg.OK Tryz.prog := spQf_ok.cfg
theorem qsr (xs : List Value) (n i : Int) (B : List Value → AH → Prop) (Q : AExit → List Value → AH → Prop) :
    once 0 Tryz.prog SQf [] noHooks 900 35 [0, 9, 10, 11] [] [2] [] (oneLoop (codeOf Tryz.f11) 4) [fz ⟨xs⟩, fz ⟨xs⟩, .int .i64 n, .int .i64 i] h0 B Q =
      bif decide (i < n) then bif decide (0 ≤ i) && decide (i < ((Array.mk xs).size : Int)) && true then elA xs i = akV (atA xs i) ∧
        bif inU whoQ (atA xs i).2.1 then bif frN ((atA xs i).1, (atA xs i).2.1, (atA xs i).2.2.1, (atA xs i).2.2.2) != 0 then Q .ret [.int .i64 (frN ((atA xs i).1, (atA xs i).2.1, (atA xs i).2.2.1, (atA xs i).2.2.2))] h0 else
          bif decide (i > 0) then bif decide (0 ≤ IntKind.i64.wrap (i - 1)) && decide (IntKind.i64.wrap (i - 1) < ((Array.mk xs).size : Int)) && true then elA xs (IntKind.i64.wrap (i - 1)) = akV (atA xs (IntKind.i64.wrap (i - 1))) ∧
            bif (bif true then decide ((atA xs i).1 < (atA xs (IntKind.i64.wrap (i - 1))).1) else false) then Q .ret [.int .i64 7] h0 else B [fz ⟨xs⟩, fz ⟨xs⟩, .int .i64 n, .int .i64 (IntKind.i64.wrap (i + 1))] h0
          else False else B [fz ⟨xs⟩, fz ⟨xs⟩, .int .i64 n, .int .i64 (IntKind.i64.wrap (i + 1))] h0
        else False
      else False else Q (.exit 0) [anyV] h0 := by kernel_rfl
theorem someQS : Tryz.f11.body.isSome = true := by kernel_rfl
theorem oneQS : (loopAt (codeOf Tryz.f11) 4).length = 1 := by kernel_rfl
theorem qsf (xs : List Value) (e : Int) (C : List Value → AH → Prop) (Q : Value → Prop) :
    tfn Tryz.prog SQf [] (hook1 4 (hookLS 0 35 [0, 9, 10, 11] [] [2] (fun vals h K => C vals h ∧ bif e == 0 then K (.exit 0) [anyV] h0 else K .ret [.int .i64 e] h0))) 900 [] Tryz.f11 [fz ⟨xs⟩] h0 (fun v _ => Q v) =
      bif decide (((Array.mk xs).size : Int) > 3000) then Q (.int .i64 2) else C [fz ⟨xs⟩, fz ⟨xs⟩, .int .i64 ((Array.mk xs).size : Int), .int .i64 0] h0 ∧ bif e == 0 then Q (.int .i64 0) else Q (.int .i64 e) := by kernel_rfl
theorem qs_loop {L : List A4} (hl : L.length ≤ 3000) (hw : ∀ a ∈ L, a.2.1 ∈ whoQ) : ∀ (r i : Nat), i + r = L.length → ∃ e : Int, (e = 0 → ∀ j (hj : j < L.length), i ≤ j → akOK L[j] = true ∧ (∀ h : 0 < j, (L[j - 1]).1 ≤ (L[j]).1)) ∧
    ∀ K : AExit → List Value → AH → Prop, (bif e == 0 then K (.exit 0) [anyV] h0 else K .ret [.int .i64 e] h0) → iter 0 Tryz.prog SQf [] noHooks 900 35 [0, 9, 10, 11] [] [2] [] (oneLoop (codeOf Tryz.f11) 4) (r + 1) [fz ⟨L.map akV⟩, fz ⟨L.map akV⟩, .int .i64 (L.length : Int), .int .i64 (i : Int)] h0 K := by
  intro r
  have hsz : (Array.mk (L.map akV)).size = L.length := by simp
  induction r with
  | zero =>
    intro i h1
    exact ⟨0, fun _ j hj hij => by omega, fun K hK => (qsr _ _ _ _ K).mpr (pick_f (by simp; omega) hK)⟩
  | succ r ih =>
    intro i h1
    have hi : i < L.length := by omega
    obtain ⟨g1, g2⟩ := getA hi
    have hin : inU whoQ (L[i]).2.1 = true := by
      have := hw _ (List.getElem_mem hi)
      simp only [whoQ, List.mem_cons, List.not_mem_nil, or_false] at this
      rcases this with q | q | q | q <;> rw [q] <;> decide +kernel
    have start : ∀ K : AExit → List Value → AH → Prop, (bif frN L[i] != 0 then K .ret [.int .i64 (frN L[i])] h0 else
          bif decide ((i : Int) > 0) then bif decide (0 ≤ IntKind.i64.wrap ((i : Int) - 1)) && decide (IntKind.i64.wrap ((i : Int) - 1) < ((Array.mk (L.map akV)).size : Int)) && true then elA (L.map akV) (IntKind.i64.wrap ((i : Int) - 1)) = akV (atA (L.map akV) (IntKind.i64.wrap ((i : Int) - 1))) ∧
            bif (bif true then decide ((L[i]).1 < (atA (L.map akV) (IntKind.i64.wrap ((i : Int) - 1))).1) else false) then K .ret [.int .i64 7] h0 else iter 0 Tryz.prog SQf [] noHooks 900 35 [0, 9, 10, 11] [] [2] [] (oneLoop (codeOf Tryz.f11) 4) (r + 1) [fz ⟨L.map akV⟩, fz ⟨L.map akV⟩, .int .i64 (L.length : Int), .int .i64 (IntKind.i64.wrap ((i : Int) + 1))] h0 K
          else False else iter 0 Tryz.prog SQf [] noHooks 900 35 [0, 9, 10, 11] [] [2] [] (oneLoop (codeOf Tryz.f11) 4) (r + 1) [fz ⟨L.map akV⟩, fz ⟨L.map akV⟩, .int .i64 (L.length : Int), .int .i64 (IntKind.i64.wrap ((i : Int) + 1))] h0 K) → iter 0 Tryz.prog SQf [] noHooks 900 35 [0, 9, 10, 11] [] [2] [] (oneLoop (codeOf Tryz.f11) 4) (r + 1 + 1) [fz ⟨L.map akV⟩, fz ⟨L.map akV⟩, .int .i64 (L.length : Int), .int .i64 (i : Int)] h0 K := fun K hK => by
      refine (qsr _ _ _ _ K).mpr (pick_t (decide_eq_true (by omega)) (need_mk (by rw [hsz]; simp; omega) ?_))
      rw [g2]
      exact ⟨g1, need_mk hin hK⟩
    rw [wrap1 (by omega)] at start
    by_cases q0 : frN L[i] = 0
    · obtain ⟨e, x1, x2⟩ := ih (i + 1) (by omega)
      by_cases q : i = 0
      · refine ⟨e, fun he j hj hij => ?_, fun K hK => start K (pick_f (by simp [q0]) (pick_f (by subst q; rfl) (x2 K hK)))⟩
        by_cases hj2 : j = i
        · subst hj2
          exact ⟨frN_ok q0, fun h => by omega⟩
        · exact x1 he j hj (by omega)
      · obtain ⟨j0, rfl⟩ : ∃ j0, i = j0 + 1 := ⟨i - 1, by omega⟩
        have e1 : IntKind.i64.wrap (((j0 + 1 : Nat) : Int) - 1) = (j0 : Int) := by rw [wrap_id _ (by omega) (by omega)]; omega
        obtain ⟨k1, k2⟩ := getA (L := L) (i := j0) (by omega)
        rw [e1, k2] at start
        by_cases q3 : (L[j0 + 1]).1 < (L[j0]).1
        · exact ⟨7, fun he => (by cases he), fun K hK => start K (pick_f (by simp [q0]) (pick_t (decide_eq_true (by omega)) (need_mk (by rw [hsz]; simp; omega) ⟨k1, pick_t (decide_eq_true q3) hK⟩)))⟩
        · refine ⟨e, fun he j hj hij => ?_, fun K hK => start K (pick_f (by simp [q0]) (pick_t (decide_eq_true (by omega)) (need_mk (by rw [hsz]; simp; omega) ⟨k1, pick_f (decide_eq_false q3) (x2 K hK)⟩)))⟩
          by_cases hj2 : j = j0 + 1
          · subst hj2
            refine ⟨frN_ok q0, fun _ => ?_⟩
            show (L[j0]).1 ≤ _
            omega
          · exact x1 he j hj (by omega)
    · exact ⟨frN L[i], fun he => absurd he q0, fun K hK => start K (pick_t (by simp [q0]) (by
        have : (frN L[i] == 0) = false := by simp [q0]
        rw [this] at hK
        exact hK))⟩
/-- Asks in order that are right. -/
def okFrom : Int → List A4 → Prop
  | _, [] => True
  | now, a :: L => akOK a = true ∧ now ≤ a.1 ∧ okFrom a.1 L
theorem okFrom_of : ∀ {L : List A4} {now : Int}, (∀ j (hj : j < L.length), akOK L[j] = true ∧ (∀ h : 0 < j, (L[j - 1]).1 ≤ (L[j]).1)) → (∀ a ∈ L.head?, now ≤ a.1) → okFrom now L
  | [], _, _, _ => trivial
  | a :: L, now, h, hn => by
    refine ⟨(h 0 (by simp)).1, hn a rfl, okFrom_of (fun j hj => ⟨(h (j + 1) (by simpa using hj)).1, fun h0 => ?_⟩) fun b hb => ?_⟩
    · have := (h (j + 1) (by simpa using hj)).2 (by omega)
      obtain ⟨k, rfl⟩ : ∃ k, j = k + 1 := ⟨j - 1, by omega⟩
      exact this
    · cases L with
      | nil => cases hb
      | cons c L =>
        cases hb
        exact (h 1 (by simp)).2 (by omega)
theorem qs_ex {L : List A4} (hl : L.length ≤ 3000) (hw : ∀ a ∈ L, a.2.1 ∈ whoQ) : ∃ e : Int, (e = 0 → okFrom 0 L) ∧ FnOK 0 Tryz.prog 11 ⟨[fz ⟨L.map akV⟩]⟩ h0 (fun v _ => v = .int .i64 e) := by
  have hsz : (Array.mk (L.map akV)).size = L.length := by simp
  obtain ⟨e, x1, x2⟩ := qs_loop hl hw L.length 0 (by omega)
  refine ⟨e, fun he => okFrom_of (fun j hj => x1 he j hj (by omega)) fun a ha => ?_, ?_⟩
  · cases L with
    | nil => cases ha
    | cons b L =>
      cases ha
      have := (x1 he 0 (by simp) (by omega)).1
      unfold akOK at this
      simp only [Bool.and_eq_true, decide_eq_true_eq] at this
      exact this.1.1.1.1.1.1
  · have hsp : LSpec 0 Tryz.prog 35 (oneLoop (codeOf Tryz.f11) 4) (hookLS 0 35 [0, 9, 10, 11] [] [2] (fun vals h K => (vals = [fz ⟨L.map akV⟩, fz ⟨L.map akV⟩, .int .i64 (L.length : Int), .int .i64 0] ∧ h = h0) ∧ bif e == 0 then K (.exit 0) [anyV] h0 else K .ret [.int .i64 e] h0)) := by
      refine hook_ok (G := []) (L := noHooks) (f := 900) (sameX := []) SQf_ok mixed (by decide) (loops_none _ _ _ _) ?_
      rintro vals h K ⟨⟨rfl, rfl⟩, hK⟩
      exact ⟨_, x2 K hK⟩
    refine FnOK.ttree SQf_ok mixed Tryz.func11 someQS (loops_one oneQS hsp) (qsf (L.map akV) e _ (fun v => v = .int .i64 e)) (pick_f (by rw [hsz]; simp; omega) ⟨⟨by rw [hsz], rfl⟩, ?_⟩)
    cases q : (e == 0) with
    | true => rw [beq_iff_eq] at q; rw [q]; rfl
    | false => rfl
end Go.Proofs.YtbigicdojndnjaaGreatDoor
