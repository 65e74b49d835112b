/-
  What 'HeadersSet' needs: what RightHeaders draws, as a specification, and the plain laws of headers.
-/
import Derived.Test.YthhdmehakpjhgaaGreatDoorHeadE
import Derived.Test.YthhdmehakpjhgaaGreatDoorHeadR
import Derived.Test.YthhdmehakpjhgaaGreatDoorEqHd
import Derived.Test.YthhdmehakpjhgaaGreatDoorEqB
namespace Go.Proofs.YthhdmehakpjhgaaGreatDoor
open Go.Ev Go.RowKit
theorem beqN_refl : ∀ l : List Nat, beqN l l = true
  | [] => rfl
  | a :: l => by simp [beqN, beqN_refl l, Nat.beq_refl]
theorem named_refl (k : ByteArray) : named k k = true := beqN_refl _
theorem setR_true (k x : ByteArray) : ∀ l : List (ByteArray × ByteArray), (setR k x l true).2 = true ∧ valuesL k (setR k x l true).1 = []
  | [] => ⟨rfl, rfl⟩
  | p :: l => by
    obtain ⟨h1, h2⟩ := setR_true k x l
    simp only [setR]
    cases hb : named p.1 k with
    | true => exact ⟨h1, h2⟩
    | false => exact ⟨h1, by simpa [valuesL, hb] using h2⟩
theorem setR_false (k x : ByteArray) : ∀ l : List (ByteArray × ByteArray), valuesL k (setR k x l false).1 = cond (setR k x l false).2 [x] []
  | [] => rfl
  | p :: l => by
    have ih := setR_false k x l
    obtain ⟨h1, h2⟩ := setR_true k x l
    simp only [setR]
    cases hb : named p.1 k with
    | true =>
      simp only [cond_true, cond_false, h1]
      have : valuesL k ((p.1, x) :: (setR k x l true).1) = x :: valuesL k (setR k x l true).1 := by simp [valuesL, hb]
      rw [this, h2]
    | false =>
      simp only [cond_false]
      rw [← ih]
      simp [valuesL, hb]
/-- What is set is there once. -/
theorem values_set (k x : ByteArray) (l : List (ByteArray × ByteArray)) : valuesL k (setL k x l) = [x] := by
  have h := setR_false k x l
  unfold setL
  cases hd : (setR k x l false).2 with
  | true => rw [hd] at h; exact h
  | false =>
    rw [hd] at h
    have : valuesL k ((setR k x l false).1 ++ [(k, x)]) = valuesL k (setR k x l false).1 ++ [x] := by simp [valuesL, named_refl]
    rw [cond_false, this, h]
    rfl
/-- What is removed is not there. -/
theorem values_remove (k : ByteArray) (l : List (ByteArray × ByteArray)) : valuesL k (removeL k l) = [] := by
  have : (removeL k l).filter (fun p => named p.1 k) = [] := by
    rw [List.filter_eq_nil_iff]
    intro p hp
    have := (List.mem_filter.1 hp).2
    simpa using this
  simp [valuesL, this]
theorem remove_setR (k x : ByteArray) : ∀ (l : List (ByteArray × ByteArray)) (d : Bool), removeL k (setR k x l d).1 = removeL k l
  | [], _ => rfl
  | p :: l, d => by
    have i1 := remove_setR k x l d
    have i2 := remove_setR k x l true
    simp only [setR]
    cases hb : named p.1 k with
    | true =>
      have e : removeL k (p :: l) = removeL k l := by simp [removeL, hb]
      cases d with
      | true => rw [e]; exact i2
      | false =>
        rw [e, ← i2]
        simp [removeL, hb]
    | false =>
      have e : removeL k (p :: l) = p :: removeL k l := by simp [removeL, hb]
      rw [e, ← i1]
      simp [removeL, hb]
/-- All others stay. -/
theorem remove_set (k x : ByteArray) (l : List (ByteArray × ByteArray)) : removeL k (setL k x l) = removeL k l := by
  unfold setL
  cases (setR k x l false).2 with
  | true => exact remove_setR k x l false
  | false =>
    have : removeL k ((setR k x l false).1 ++ [(k, x)]) = removeL k (setR k x l false).1 := by simp [removeL, named_refl]
    rw [cond_false, this]
    exact remove_setR k x l false
theorem setR_mem (k x : ByteArray) : ∀ (l : List (ByteArray × ByteArray)) (d : Bool) (p : ByteArray × ByteArray), p ∈ (setR k x l d).1 → (∃ q ∈ l, p.1 = q.1) ∧ (p.2 = x ∨ p ∈ l)
  | [], d, p, h => by simp [setR] at h
  | q :: l, d, p, h => by
    have lift : ((∃ q ∈ l, p.1 = q.1) ∧ (p.2 = x ∨ p ∈ l)) → (∃ r ∈ q :: l, p.1 = r.1) ∧ (p.2 = x ∨ p ∈ q :: l) := by
      rintro ⟨⟨r, h1, h2⟩, h3⟩
      exact ⟨⟨r, List.mem_cons_of_mem _ h1, h2⟩, h3.imp_right (List.mem_cons_of_mem _)⟩
    simp only [setR] at h
    cases hb : named q.1 k with
    | true =>
      rw [hb] at h
      cases d with
      | true => exact lift (setR_mem k x l true p h)
      | false =>
        rcases List.mem_cons.1 h with rfl | h
        · exact ⟨⟨q, by simp, rfl⟩, .inl rfl⟩
        · exact lift (setR_mem k x l true p h)
    | false =>
      rw [hb] at h
      rcases List.mem_cons.1 h with rfl | h
      · exact ⟨⟨p, by simp, rfl⟩, .inr (by simp)⟩
      · exact lift (setR_mem k x l d p h)
theorem set_ok {k x : ByteArray} {l : List (ByteArray × ByteArray)} (hk : inU namesU k = true) (hx : inU valsU x = true) (h : ∀ p ∈ l, okH p = true) : ∀ p ∈ setL k x l, okH p = true := by
  have key : ∀ p ∈ (setR k x l false).1, okH p = true := by
    intro p hp
    obtain ⟨⟨q, h1, h2⟩, h3⟩ := setR_mem k x l false p hp
    have hq := h q h1
    unfold okH at hq ⊢
    rw [Bool.and_eq_true] at hq ⊢
    refine ⟨by rw [h2]; exact hq.1, ?_⟩
    rcases h3 with h3 | h3
    · rw [h3]; exact hx
    · have := h p h3
      unfold okH at this
      rw [Bool.and_eq_true] at this
      exact this.2
  unfold setL
  cases (setR k x l false).2 with
  | true => exact key
  | false =>
    intro p hp
    rw [cond_false] at hp
    rcases List.mem_append.1 hp with hp | hp
    · exact key p hp
    · rw [List.mem_singleton.1 hp]
      simp [okH, hk, hx]
theorem set_len (k x : ByteArray) (l : List (ByteArray × ByteArray)) : 1 ≤ (setL k x l).length ∧ (setL k x l).length ≤ l.length + 1 := by
  have h1 := setR_len k x l false
  constructor
  · have := values_set k x l
    cases he : setL k x l with
    | nil => rw [he] at this; simp [valuesL] at this
    | cons a b => simp
  · unfold setL
    cases (setR k x l false).2 <;> simp <;> omega
theorem hlist_map (l : List (ByteArray × ByteArray)) : hlist (l.map hv) = l := by
  unfold hlist
  rw [List.map_map]
  exact List.map_id'' (fun p => rfl) l
theorem all_shpH (l : List (ByteArray × ByteArray)) : (l.map hv).all shpH = true := by
  rw [List.all_eq_true]
  intro v hv
  obtain ⟨p, _, rfl⟩ := List.mem_map.1 hv
  rfl

/-- What RightHeaders hands back at the first place of a stream. -/
def drawnOK (xs : Array Value) (v : Value) (last : Int) : Prop :=
  (nextR xs 0 6 = 0 ∧ v = .slice none 0 0 ∧ last = 1) ∨ ∃ n : Nat, 1 ≤ n ∧ n ≤ 5 ∧ nextR xs 0 6 = n ∧ v = fz ⟨(drawnH xs 1 n).map hv⟩ ∧ last = 2 * n + 1
open Classical in
noncomputable def drawnB (xs : Array Value) (v : Value) (last : Int) : Bool := decide (drawnOK xs v last)
theorem drawnB_eq {xs : Array Value} {v : Value} {last : Int} : drawnB xs v last = true ↔ drawnOK xs v last := by simp [drawnB]
noncomputable def spRH (v : Value) (last : Int) (f : FuncId) (args : Array Value) (h : AH) : Option (Bool × Value × AH) :=
  cond (Nat.beq f 9) (match args with
    | ⟨[.pointer (some ⟨b, 0, none⟩), .int .i64 m]⟩ => match h.get b with
      | some (.cells ⟨[.func (.yield 0) xs ⟨[]⟩, .int .i64 at_]⟩ t (0, 0)) =>
        some (Nat.beq t 25 && decide (m = 5) && decide (at_ = 0) && allInts xs && drawnB xs v last, v, h.set b (.cells ⟨[fz xs, .int .i64 last]⟩ 25 (0, 0)))
      | _ => none
    | _ => none) none
theorem rh_fn (zs : List Int) (v : Value) (last : Int) (h : drawnOK (intsV zs) v last) : FnOK 1 Tryz.prog 9 ⟨[.pointer (some ⟨0, 0, none⟩), .int .i64 5]⟩ (Ev.h1 (strm (intsV zs) 0)) (fun u g => u = v ∧ g.get 0 = some (strm (intsV zs) last)) := by
  rcases h with ⟨h1, rfl, rfl⟩ | ⟨n, h1, h2, h3, rfl, rfl⟩
  · exact rheads0 zs 0 (by omega) (by omega) h1
  · match n, h1, h2, h3 with
    | 1, _, _, h3 => exact rheads1 zs 0 (by omega) (by omega) h3
    | 2, _, _, h3 => exact rheads2 zs 0 (by omega) (by omega) h3
    | 3, _, _, h3 => exact rheads3 zs 0 (by omega) (by omega) h3
    | 4, _, _, h3 => exact rheads4 zs 0 (by omega) (by omega) h3
    | 5, _, _, h3 => exact rheads5 zs 0 (by omega) (by omega) h3
theorem spRH_ok (v : Value) (last : Int) (hv : p3 v = true) : SpOK (spRH v last) := by
  intro f args h v h' hs
  unfold spRH at hs
  obtain ⟨hf, hs2⟩ := cond_some hs
  clear hs
  have hs := hs2
  clear hs2
  have := Nat.eq_of_beq_eq_true hf
  subst this
  split at hs
  · rename_i b m
    split at hs
    · rename_i xs at_ t hg
      injection hs with hs
      injection hs with hb hs
      injection hs with hv hh
      subst hv hh
      rw [Bool.and_eq_true, Bool.and_eq_true, Bool.and_eq_true, Bool.and_eq_true] at hb
      obtain ⟨⟨⟨⟨b0, b1⟩, b2⟩, b3⟩, b4⟩ := hb
      have b0 := Nat.eq_of_beq_eq_true b0
      subst b0
      have b1 : m = 5 := of_decide_eq_true b1
      subst b1
      have b2 : at_ = 0 := of_decide_eq_true b2
      subst b2
      obtain ⟨zs, rfl⟩ := intsV_of_all b3
      refine ⟨?_, Nat.le_refl _⟩
      exact FnOK.ref (cs := ⟨[fz (intsV zs), .int .i64 0]⟩) (cs' := ⟨[fz (intsV zs), .int .i64 last]⟩) (args := [.int .i64 5]) (rh_fn zs _ last (drawnB_eq.1 b4)) rfl (by simp [p1, fz]) (by simp [p1, fz]) ‹_› hg
    · cases hs
  · cases hs
noncomputable def spLaw (v : Value) (last : Int) : Ev.Spec := spOr spReady (spOr (spRH v last) (spOr (spNext []) (spOr spTok (spOr spFld (spOr spChk (spOr spVal (spOr spSet (spOr spWo (spOr spEq (spOr spEqB spEqHd))))))))))
noncomputable def SLaw (v : Value) (last : Int) : SC := ⟨idn, spLaw v last, true, true⟩
theorem SLaw_ok (v : Value) (last : Int) (hv : p3 v = true) : (SLaw v last).cfg.OK Tryz.prog :=
  (spReady_ok.or ((spRH_ok v last hv).or ((spNext_ok []).or (spTok_ok.or (spFld_ok.or (spChk_ok.or (spVal_ok.or (spSet_ok.or (spWo_ok.or (spEq_ok.or (spEqB_ok.or spEqHd_ok))))))))))).cfg
end Go.Proofs.YthhdmehakpjhgaaGreatDoor
