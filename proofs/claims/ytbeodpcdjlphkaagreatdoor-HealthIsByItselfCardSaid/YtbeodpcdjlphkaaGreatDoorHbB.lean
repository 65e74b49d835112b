/-
  The health of instances: lists of probes and turns; 'CheckProbes', 'Equal' and 'Clone' as specifications.
-/
import Derived.Test.YtbeodpcdjlphkaaGreatDoorHbA
/-! Plain laws for HealthIsByItself (core Lean only). -/
namespace HealthLaw
/-- A probe (when, whom, good) or a turn (when, who, up). -/
abbrev T3 := Int × ByteArray × Bool
/-- How an instance is: down, and in a row. -/
abbrev St := Bool × Int
def step (rise fall : Int) (good : Bool) (s : St) : St × Bool :=
  if good != s.1 then ((s.1, 0), false)
  else if s.2 + 1 < (if s.1 then rise else fall) then ((s.1, s.2 + 1), false) else ((!s.1, 0), true)
def d0 : St := (false, 0)
def turnsL (rise fall : Int) (idx : ByteArray → Nat) : List St → List T3 → List T3
  | _, [] => []
  | S, t :: l => cond (step rise fall t.2.2 (S.getD (idx t.2.1) d0)).2 [(t.1, t.2.1, !(step rise fall t.2.2 (S.getD (idx t.2.1) d0)).1.1)] [] ++
      turnsL rise fall idx (S.set (idx t.2.1) (step rise fall t.2.2 (S.getD (idx t.2.1) d0)).1) l
theorem turnsL_cons (rise fall : Int) (idx : ByteArray → Nat) (S : List St) (t : T3) (l : List T3) : turnsL rise fall idx S (t :: l) =
    cond (step rise fall t.2.2 (S.getD (idx t.2.1) d0)).2 [(t.1, t.2.1, !(step rise fall t.2.2 (S.getD (idx t.2.1) d0)).1.1)] [] ++ turnsL rise fall idx (S.set (idx t.2.1) (step rise fall t.2.2 (S.getD (idx t.2.1) d0)).1) l := rfl
theorem getD_set_self {S : List St} {i : Nat} (h : i < S.length) (s : St) : (S.set i s).getD i d0 = s := by
  simp [List.getD, h]
theorem getD_set_ne {S : List St} {i j : Nat} (h : i ≠ j) (s : St) : (S.set i s).getD j d0 = S.getD j d0 := by
  simp [List.getD, List.getElem?_set_ne h]
/-- The turns of one instance are those of its own probes. -/
theorem by_itself {rise fall : Int} {idx : ByteArray → Nat} {q : ByteArray → Bool} {i : Nat} : ∀ (p : List T3) (S S' : List St), (∀ t ∈ p, (q t.2.1 = true → idx t.2.1 = i) ∧ (q t.2.1 = false → idx t.2.1 ≠ i)) →
    S.getD i d0 = S'.getD i d0 → i < S.length → i < S'.length → (turnsL rise fall idx S p).filter (fun t => q t.2.1) = turnsL rise fall idx S' (p.filter fun t => q t.2.1)
  | [], _, _, _, _, _, _ => rfl
  | t :: l, S, S', hq, he, h1, h2 => by
    obtain ⟨a, b⟩ := hq t (by simp)
    have hl : ∀ u ∈ l, (q u.2.1 = true → idx u.2.1 = i) ∧ (q u.2.1 = false → idx u.2.1 ≠ i) := fun u hu => hq u (by simp [hu])
    cases hb : q t.2.1 with
    | true =>
      have e := a hb
      have e2 : (t :: l).filter (fun t => q t.2.1) = t :: l.filter (fun t => q t.2.1) := by simp [hb]
      rw [e2, turnsL_cons, turnsL_cons, e, he, List.filter_append]
      have ih := by_itself (rise := rise) (fall := fall) l (S.set i (step rise fall t.2.2 (S'.getD i d0)).1) (S'.set i (step rise fall t.2.2 (S'.getD i d0)).1) hl
        (by rw [getD_set_self h1, getD_set_self h2]) (by simpa using h1) (by simpa using h2)
      rw [ih]
      congr 1
      cases (step rise fall t.2.2 (S'.getD i d0)).2 with
      | true => simp [hb]
      | false => rfl
    | false =>
      have e := b hb
      have e2 : (t :: l).filter (fun t => q t.2.1) = l.filter (fun t => q t.2.1) := by simp [hb]
      rw [e2, turnsL_cons, List.filter_append]
      have ih := by_itself (rise := rise) (fall := fall) l (S.set (idx t.2.1) (step rise fall t.2.2 (S.getD (idx t.2.1) d0)).1) S' hl
        (by rw [getD_set_ne e, he]) (by simpa using h1) h2
      rw [ih]
      have e3 : (cond (step rise fall t.2.2 (S.getD (idx t.2.1) d0)).2 [(t.1, t.2.1, !(step rise fall t.2.2 (S.getD (idx t.2.1) d0)).1.1)] [] : List T3).filter (fun t => q t.2.1) = [] := by
        cases (step rise fall t.2.2 (S.getD (idx t.2.1) d0)).2 with
        | true => simp [hb]
        | false => rfl
      rw [e3, List.nil_append]
theorem step_turn {rise fall : Int} {g : Bool} {s : St} (h : (step rise fall g s).2 = true) : (step rise fall g s).1.1 = !s.1 := by
  unfold step at h ⊢
  by_cases h1 : (g != s.1) = true
  · rw [if_pos h1] at h; cases h
  · rw [if_neg h1] at h ⊢
    by_cases h2 : s.2 + 1 < (if s.1 = true then rise else fall)
    · rw [if_pos h2] at h; cases h
    · rw [if_neg h2]
theorem step_stay {rise fall : Int} {g : Bool} {s : St} (h : (step rise fall g s).2 = false) : (step rise fall g s).1.1 = s.1 := by
  unfold step at h ⊢
  by_cases h1 : (g != s.1) = true
  · rw [if_pos h1]
  · rw [if_neg h1] at h ⊢
    by_cases h2 : s.2 + 1 < (if s.1 = true then rise else fall)
    · rw [if_pos h2]
    · rw [if_neg h2] at h; cases h
/-- Turns that go up and down by turns. -/
def alt : Bool → List T3 → Prop
  | _, [] => True
  | b, t :: l => t.2.2 = b ∧ alt (!b) l
theorem alt_turns {rise fall : Int} {idx : ByteArray → Nat} {i : Nat} : ∀ (p : List T3) (S : List St), (∀ t ∈ p, idx t.2.1 = i) → i < S.length → alt (S.getD i d0).1 (turnsL rise fall idx S p)
  | [], _, _, _ => trivial
  | t :: l, S, hi, h1 => by
    have e := hi t (by simp)
    unfold turnsL
    rw [e]
    have ih := alt_turns (rise := rise) (fall := fall) l (S.set i (step rise fall t.2.2 (S.getD i d0)).1) (fun u hu => hi u (by simp [hu])) (by simpa using h1)
    rw [getD_set_self h1] at ih
    cases hs : (step rise fall t.2.2 (S.getD i d0)).2 with
    | true =>
      rw [step_turn hs] at ih ⊢
      exact ⟨by simp, ih⟩
    | false =>
      rw [step_stay hs] at ih
      exact ih
theorem alt_get : ∀ {l : List T3} {b : Bool}, alt b l → ∀ (j : Nat) (t : T3), l[j]? = some t → t.2.2 = (b != decide (j % 2 = 1))
  | t :: l, b, h, 0, u, hu => by
    simp only [List.getElem?_cons_zero, Option.some.injEq] at hu
    subst hu
    rw [h.1]; simp
  | t :: l, b, h, j + 1, u, hu => by
    have := alt_get h.2 j u (by simpa using hu)
    rw [this]
    have : (j + 1) % 2 = 1 ↔ ¬ j % 2 = 1 := by omega
    by_cases hj : j % 2 = 1
    · have h2 : ¬ (j + 1) % 2 = 1 := fun q => (this.1 q) hj
      rw [decide_eq_true hj, decide_eq_false h2]; cases b <;> rfl
    · have h2 : (j + 1) % 2 = 1 := this.2 hj
      rw [decide_eq_false hj, decide_eq_true h2]; cases b <;> rfl
theorem turns_len {rise fall : Int} {idx : ByteArray → Nat} : ∀ (p : List T3) (S : List St), (turnsL rise fall idx S p).length ≤ p.length
  | [], _ => Nat.le_refl _
  | t :: l, S => by
    have := turns_len (rise := rise) (fall := fall) (idx := idx) l (S.set (idx t.2.1) (step rise fall t.2.2 (S.getD (idx t.2.1) d0)).1)
    unfold turnsL
    rw [List.length_append, List.length_cons]
    cases (step rise fall t.2.2 (S.getD (idx t.2.1) d0)).2 with
    | true => simp only [cond_true, List.length_cons, List.length_nil]; omega
    | false => simp only [cond_false, List.length_nil]; omega
theorem turns_inst {rise fall : Int} {idx : ByteArray → Nat} {R : ByteArray → Prop} : ∀ (p : List T3) (S : List St), (∀ t ∈ p, R t.2.1) → ∀ t ∈ turnsL rise fall idx S p, R t.2.1
  | [], _, _, t, ht => by cases ht
  | u :: l, S, h, t, ht => by
    unfold turnsL at ht
    rcases List.mem_append.1 ht with q | q
    · cases hs : (step rise fall u.2.2 (S.getD (idx u.2.1) d0)).2 with
      | true =>
        rw [hs, cond_true] at q
        rw [List.mem_singleton.1 q]
        exact h u (by simp)
      | false => rw [hs] at q; cases q
    · exact turns_inst l _ (fun v hv => h v (by simp [hv])) t q

/-- What is wrong with probes: a moment, an instance that is not there, the order. -/
def lateB : Option Int → Int → Bool
  | none, _ => false
  | some a, x => decide (x < a)
def chkL (known : ByteArray → Bool) : Option Int → List T3 → Int
  | _, [] => 0
  | pr, t :: l => if 0 ≤ t.1 ∧ t.1 < 345686400000 then (if known t.2.1 = true then (if lateB pr t.1 = true then 7 else chkL known (some t.1) l) else 8) else 1
def chkOk (known : ByteArray → Bool) (pr : Option Int) : List T3 → Prop
  | [] => True
  | t :: l => (0 ≤ t.1 ∧ t.1 < 345686400000) ∧ known t.2.1 = true ∧ (match pr with | none => True | some a => a ≤ t.1) ∧ chkOk known (some t.1) l
theorem chkL_cons (known : ByteArray → Bool) (pr : Option Int) (t : T3) (l : List T3) : chkL known pr (t :: l) = if 0 ≤ t.1 ∧ t.1 < 345686400000 then (if known t.2.1 = true then (if lateB pr t.1 = true then 7 else chkL known (some t.1) l) else 8) else 1 := rfl
theorem chk_ok {known : ByteArray → Bool} : ∀ {l : List T3} {pr : Option Int}, chkL known pr l = 0 → chkOk known pr l
  | [], _, _ => trivial
  | t :: l, pr, h => by
    rw [chkL_cons] at h
    split at h
    · rename_i h1
      split at h
      · rename_i h2
        split at h
        · cases h
        · rename_i h3
          refine ⟨h1, h2, ?_, chk_ok h⟩
          cases pr with
          | none => trivial
          | some a =>
            have h3 : ¬ decide (t.1 < a) = true := h3
            rw [decide_eq_true_eq] at h3
            show a ≤ t.1
            omega
      · cases h
    · cases h
theorem ok_chk {known : ByteArray → Bool} : ∀ {l : List T3} {pr : Option Int}, chkOk known pr l → chkL known pr l = 0
  | [], _, _ => rfl
  | t :: l, pr, ⟨h1, h2, h3, h4⟩ => by
    rw [chkL_cons, if_pos h1, if_pos h2, if_neg, ok_chk h4]
    cases pr with
    | none => exact Bool.false_ne_true
    | some a =>
      have h3 : a ≤ t.1 := h3
      show ¬ decide (t.1 < a) = true
      rw [decide_eq_true_eq]
      omega
theorem ok_weak {known : ByteArray → Bool} : ∀ {l : List T3} {a b : Int}, b ≤ a → chkOk known (some a) l → chkOk known (some b) l
  | [], _, _, _, _ => trivial
  | _ :: _, _, _, h, ⟨h1, h2, h3, h4⟩ => ⟨h1, h2, Int.le_trans h h3, h4⟩
theorem ok_none {known : ByteArray → Bool} : ∀ {l : List T3} {a : Int}, chkOk known (some a) l → chkOk known none l
  | [], _, _ => trivial
  | _ :: _, _, ⟨h1, h2, _, h4⟩ => ⟨h1, h2, trivial, h4⟩
theorem ok_filter {known : ByteArray → Bool} (q : T3 → Bool) : ∀ {l : List T3} {pr : Option Int}, chkOk known pr l → chkOk known pr (l.filter q)
  | [], _, _ => trivial
  | t :: l, pr, ⟨h1, h2, h3, h4⟩ => by
    have ih := ok_filter q h4
    cases hq : q t with
    | true => rw [List.filter_cons_of_pos hq]; exact ⟨h1, h2, h3, ih⟩
    | false =>
      rw [List.filter_cons_of_neg (by rw [hq]; exact Bool.false_ne_true)]
      cases pr with
      | none => exact ok_none ih
      | some a => exact ok_weak h3 ih
theorem ok_known {known : ByteArray → Bool} : ∀ {l : List T3} {pr : Option Int}, chkOk known pr l → ∀ t ∈ l, known t.2.1 = true ∧ 0 ≤ t.1 ∧ t.1 < 345686400000
  | t :: l, pr, ⟨h1, h2, _, h4⟩, u, hu => by
    rcases List.mem_cons.1 hu with rfl | hu
    · exact ⟨h2, h1⟩
    · exact ok_known h4 u hu
end HealthLaw

namespace Go.Proofs.YtbeodpcdjlphkaaGreatDoor
open Go.Ev Go.RowKit HealthLaw

def SP0 : SC := ⟨idn, fun _ _ _ => none, true, true⟩
noncomputable def SP1 : SC := ⟨idn, spNext [], true, true⟩
noncomputable def SP2 : SC := ⟨idn, spOr spPl spCi, true, true⟩
/-- The place told. -/
noncomputable def spPlT (i : Nat) (f : FuncId) (args : Array Value) (h : AH) : Option (Bool × Value × AH) :=
  cond (Nat.beq f 29) (match args with
    | ⟨[.func (.yield 0) ⟨vs⟩ ⟨[]⟩, .string k]⟩ => some (okI vs && inPK k && plF (vs.map keyV) k && decide (plI (vs.map keyV) k = (i : Int)), .tuple ⟨[.int .i64 (i : Int), .bool true]⟩, h)
    | _ => none) none
noncomputable def SP3 (i : Nat) : SC := ⟨idn, spPlT i, true, true⟩
def pbHN (xs : Array Value) (d : Int) : AH := ⟨1, 1, [(0, strm xs d)]⟩
def pbHB (xs : Array Value) (d : Int) (cs : List Value) : AH := ⟨2, 2, [(0, strm xs d), (1, .cells ⟨cs⟩ 43 (0, 0))]⟩
def dfH (cs : List Value) (t : TypeId) (key : ByteArray) (w : Int) : AH := ⟨2, 2, [(0, .cells ⟨cs⟩ t (1, 1)), (1, .cells ⟨[.string key, .int .i64 w]⟩ 40 (0, 0))]⟩
def clo (f : FuncId) : Value := .func (.func f) ⟨[]⟩ ⟨[.pointer (some ⟨1, 0, none⟩)]⟩
def blkOf2 : Value → Nat
  | .slice (some a) _ _ => a.block
  | _ => 0
def tC (t : T3) : List Value := [.int .i64 t.1, .string t.2.1, .bool t.2.2]
def tV (t : T3) : Value := .agg ⟨tC t⟩
/-- A probe (when, whom, good) or a turn (when, who, up) by its cells. -/
def rdT (e : List Value) : T3 := (toInt (e.getD 0 undef), toStr (e.getD 1 undef), Ev.toBool (e.getD 2 undef))
def rdL : Nat → List Value → List T3
  | 0, _ => []
  | n + 1, l => rdT (l.take 3) :: rdL n (l.drop 3)
open Classical in
noncomputable def okC (n : Nat) (cs : List Value) : Bool := @decide (∃ L : List T3, L.length = n ∧ cs = L.flatMap tC) (Classical.propDecidable _)
def keep (key : ByteArray) (t : T3) : Bool := t.2.1.toList == key.toList
/-- The first that is not kept. -/
def ixI (key : ByteArray) : Int → List T3 → Int
  | _, [] => -1
  | i, t :: l => bif keep key t then ixI key (i + 1) l else i
noncomputable def spIx (f F : FuncId) (t : TypeId) (g : FuncId) (args : Array Value) (h : AH) : Option (Bool × Value × AH) :=
  cond (Nat.beq g f) (match args with
    | ⟨[.slice (some ⟨b, 0, none⟩) n m, .func (.func c) ⟨[]⟩ ⟨[.pointer (some ⟨y, 0, none⟩)]⟩]⟩ => match h.get b, h.get y with
      | some (.cells ⟨cs⟩ t1 fr), some (.cells ⟨[.string key, .int .i64 _]⟩ t2 fr2) => some (Nat.beq t1 t && Nat.beq t2 40 && Nat.beq fr.1 1 && Nat.beq fr.2 1 && Nat.beq fr2.1 0 && Nat.beq fr2.2 0 && Nat.beq c F && Nat.beq m n && okC n cs && Nat.ble n 1000 && !Nat.beq b y, .int .i64 (ixI key 0 (rdL n cs)), h)
      | _, _ => none
    | _ => none) none
noncomputable def SPP : SC := ⟨idn, spIx 35 13 43, true, true⟩
noncomputable def SPT : SC := ⟨idn, spIx 36 16 48, true, true⟩
open Classical in
noncomputable def okT (vs : List Value) : Bool := @decide (∃ L : List T3, (∀ t ∈ L, inPK t.2.1 = true) ∧ L.length ≤ 16 ∧ vs = L.map tV) (Classical.propDecidable _)
open Classical in
noncomputable def isE (vs : List Value) : Bool := @decide (vs = []) (Classical.propDecidable _)
open Classical in
noncomputable def sameL (vs us : List Value) : Bool := @decide (vs = us) (Classical.propDecidable _)
/-- A list, told whether it is nil. -/
noncomputable def scD (e : Bool) (l : List Value) : Value := match e with
  | true => .slice none 0 0
  | false => fz ⟨l⟩
def Tok (L : List T3) : Prop := (∀ t ∈ L, inPK t.2.1 = true) ∧ L.length ≤ 16
theorem okT_iff {vs : List Value} : okT vs = true ↔ ∃ L, Tok L ∧ vs = L.map tV := by
  unfold okT
  refine Iff.trans (@decide_eq_true_iff _ (Classical.propDecidable _)) ?_
  exact ⟨fun ⟨L, a, b, c⟩ => ⟨L, ⟨a, b⟩, c⟩, fun ⟨L, ⟨a, b⟩, c⟩ => ⟨L, a, b, c⟩⟩
theorem isE_iff {vs : List Value} : isE vs = true ↔ vs = [] := by unfold isE; exact @decide_eq_true_iff _ (Classical.propDecidable _)
theorem sameL_iff {vs us : List Value} : sameL vs us = true ↔ vs = us := by unfold sameL; exact @decide_eq_true_iff _ (Classical.propDecidable _)
def unT (v : Value) : T3 := rdT v.cells.toList
theorem unT_map : ∀ L : List T3, (L.map tV).map unT = L
  | [] => rfl
  | t :: l => by rw [List.map_cons, List.map_cons, unT_map l]; rfl
theorem flatC : ∀ L : List T3, (L.map tV).flatMap (fun x => x.cells.toList) = L.flatMap tC
  | [] => rfl
  | t :: l => by rw [List.map_cons, List.flatMap_cons, List.flatMap_cons, flatC l]; rfl
theorem tC_len : ∀ L : List T3, (L.flatMap tC).length = L.length * 3
  | [] => rfl
  | t :: l => by
    rw [List.flatMap_cons, List.length_append, tC_len l, List.length_cons]
    show 3 + _ = _
    omega
theorem rdL_flat : ∀ L : List T3, rdL L.length (L.flatMap tC) = L
  | [] => rfl
  | t :: l => by
    have := rdL_flat l
    rw [List.flatMap_cons, List.length_cons]
    show rdT (tC t) :: rdL l.length (l.flatMap tC) = _
    rw [this]
    rfl
theorem okC_iff {n : Nat} {cs : List Value} : okC n cs = true ↔ ∃ L : List T3, L.length = n ∧ cs = L.flatMap tC := by unfold okC; exact @decide_eq_true_iff _ (Classical.propDecidable _)
theorem get3 : ∀ {L : List T3} {j : Nat} {t : T3}, L[j]? = some t → List.take 3 (List.drop (j * 3) (L.flatMap tC)) = tC t
  | u :: l, 0, t, h => by
    simp only [List.getElem?_cons_zero, Option.some.injEq] at h
    subst h
    rfl
  | u :: l, j + 1, t, h => by
    have := get3 (L := l) (j := j) (t := t) (by simpa using h)
    rw [← this, Nat.succ_mul, Nat.add_comm, ← List.drop_drop]
    rfl
theorem p1_tC {L : List T3} : ∀ v ∈ L.flatMap tC, p1 v = true := by
  intro v hv
  obtain ⟨t, _, h⟩ := List.mem_flatMap.1 hv
  simp only [tC, List.mem_cons, List.not_mem_nil, or_false] at h
  rcases h with rfl | rfl | rfl <;> rfl
theorem nnF (L : List T3) (t : TypeId) (fr : Nat × Nat) : NoNames (.cells ⟨L.flatMap tC⟩ t fr) := fun v hv => p1_tC v (by simpa using hv)
theorem getT {L : List T3} {i : Nat} {t : T3} (h : L[i]? = some t) : (Array.mk (L.map tV)).toList.getD i undef = tV t := by
  have : ((L.map tV)[i]?).getD undef = tV t := by rw [List.getElem?_map, h]; rfl
  simpa [List.getD] using this
theorem getTi {L : List T3} {i : Nat} {t : T3} (h : L[i]? = some t) : (Array.mk (L.map tV)).toList.getD (i : Int).toNat undef = tV t := getT h
theorem ba_self (a : ByteArray) : (a == a) = true := by
  show (a.data == a.data) = true
  simp
theorem dropT {L : List T3} {i : Nat} (hi : i < L.length) : ∃ t, t ∈ L ∧ L[i]? = some t ∧ L.drop i = t :: L.drop (i + 1) :=
  ⟨L[i], List.getElem_mem hi, List.getElem?_eq_getElem hi, List.drop_eq_getElem_cons hi⟩
theorem wrap1 {i : Nat} (h : i ≤ 100000) : IntKind.i64.wrap ((i : Int) + 1) = ((i + 1 : Nat) : Int) := by rw [wrap_id _ (by omega) (by omega)]; rfl
theorem SP0_ok : SP0.cfg.OK Tryz.prog := none_ok.cfg
theorem SP2_ok : SP2.cfg.OK Tryz.prog := (spPl_ok.or spCi_ok).cfg

/-! 'CheckProbes' -/
theorem cpr (vs ps : List Value) (n i : Int) (B : List Value → AH → Prop) (Q : AExit → List Value → AH → Prop) : (once 0 Tryz.prog SP2 [] noHooks 600 52 [0, 1, 18, 19, 20] [] [4] [] (oneLoop (codeOf Tryz.f9) 7) [fz ⟨vs⟩, fz ⟨ps⟩, fz ⟨ps⟩, .int .i64 n, .int .i64 i] h0 B Q) = bif decide (i < n) then bif decide (0 ≤ i) && decide (i < ((Array.mk ps).size : Int)) && true then (Array.mk ps).toList.getD i.toNat (Value.tuple { toList := [] }) = Value.agg { toList := [Value.int IntKind.i64 (toInt (((Array.mk ps).toList.getD i.toNat undef).cells.toList.getD 0 (Value.tuple { toList := [] }))), Value.string (toStr (((Array.mk ps).toList.getD i.toNat undef).cells.toList.getD 1 (Value.tuple { toList := [] }))), Value.bool (Ev.toBool (((Array.mk ps).toList.getD i.toNat undef).cells.toList.getD 2 undef))] } ∧ bif decide (toInt (((Array.mk ps).toList.getD i.toNat undef).cells.toList.getD 0 (Value.tuple { toList := [] })) ≥ 0) then bif !decide (toInt (((Array.mk ps).toList.getD i.toNat undef).cells.toList.getD 0 (Value.tuple { toList := [] })) < 345686400000) then Q AExit.ret [Value.int IntKind.i64 1] { next := 0, low := 0, blocks := [] } else bif okI vs && inPK (toStr (((Array.mk ps).toList.getD i.toNat undef).cells.toList.getD 1 (Value.tuple { toList := [] }))) then bif !plF (List.map keyV vs) (toStr (((Array.mk ps).toList.getD i.toNat undef).cells.toList.getD 1 (Value.tuple { toList := [] }))) then Q AExit.ret [Value.int IntKind.i64 8] { next := 0, low := 0, blocks := [] } else bif decide (i > 0) then bif decide (0 ≤ IntKind.i64.wrap (i - 1)) && decide (IntKind.i64.wrap (i - 1) < ((Array.mk ps).size : Int)) && true then (Array.mk ps).toList.getD (IntKind.i64.wrap (i - 1)).toNat (Value.tuple { toList := [] }) = Value.agg { toList := [Value.int IntKind.i64 (toInt (((Array.mk ps).toList.getD (IntKind.i64.wrap (i - 1)).toNat undef).cells.toList.getD 0 (Value.tuple { toList := [] }))), Value.string (toStr (((Array.mk ps).toList.getD (IntKind.i64.wrap (i - 1)).toNat undef).cells.toList.getD 1 (Value.tuple { toList := [] }))), Value.bool (Ev.toBool (((Array.mk ps).toList.getD (IntKind.i64.wrap (i - 1)).toNat undef).cells.toList.getD 2 undef))] } ∧ bif decide (toInt (((Array.mk ps).toList.getD i.toNat undef).cells.toList.getD 0 (Value.tuple { toList := [] })) < toInt (((Array.mk ps).toList.getD (IntKind.i64.wrap (i - 1)).toNat undef).cells.toList.getD 0 (Value.tuple { toList := [] }))) then Q AExit.ret [Value.int IntKind.i64 7] { next := 0, low := 0, blocks := [] } else B [Value.func (Fn.yield 0) { toList := vs } { toList := [] }, Value.func (Fn.yield 0) { toList := ps } { toList := [] }, Value.func (Fn.yield 0) { toList := ps } { toList := [] }, Value.int IntKind.i64 n, Value.int IntKind.i64 (IntKind.i64.wrap (i + 1))] { next := 0, low := 0, blocks := [] } else False else B [Value.func (Fn.yield 0) { toList := vs } { toList := [] }, Value.func (Fn.yield 0) { toList := ps } { toList := [] }, Value.func (Fn.yield 0) { toList := ps } { toList := [] }, Value.int IntKind.i64 n, Value.int IntKind.i64 (IntKind.i64.wrap (i + 1))] { next := 0, low := 0, blocks := [] } else False else Q AExit.ret [Value.int IntKind.i64 1] { next := 0, low := 0, blocks := [] } else False else Q (AExit.exit 0) [Value.func (Fn.yield 2) { toList := [] } { toList := [] }] { next := 0, low := 0, blocks := [] } := by kernel_rfl

theorem cpf (vs ps : List Value) (E : Int) (C : List Value → AH → Prop) (Q : Value → Prop) : (tfn Tryz.prog SP2 [] (hook1 7 (hookLS 0 52 [0, 1, 18, 19, 20] [] [4] (fun vals h K => C vals h ∧ bif decide (E = 0) then K (.exit 0) [anyV] h0 else K .ret [.int .i64 E] h0))) 600 [] Tryz.f9 [fz ⟨vs⟩, fz ⟨ps⟩] h0 (fun v _ => Q v)) = bif okI vs then bif decide (((Array.mk ps).size : Int) > 2000) then Q (Value.int IntKind.i64 2) else C [Value.func (Fn.yield 0) { toList := vs } { toList := [] }, Value.func (Fn.yield 0) { toList := ps } { toList := [] }, Value.func (Fn.yield 0) { toList := ps } { toList := [] }, Value.int IntKind.i64 ((Array.mk ps).size : Int), Value.int IntKind.i64 0] { next := 0, low := 0, blocks := [] } ∧ bif decide (E = 0) then Q (Value.int IntKind.i64 0) else Q (Value.int IntKind.i64 E) else False := by kernel_rfl

def cpR (vs ps : List Value) (i : Int) (t u : T3) (B : Prop) (Q : Int → Prop) : Prop :=
  bif decide (t.1 ≥ 0) then bif !decide (t.1 < 345686400000) then Q 1 else
    bif okI vs && inPK t.2.1 then bif !plF (List.map keyV vs) t.2.1 then Q 8 else
      bif decide (i > 0) then bif decide (0 ≤ IntKind.i64.wrap (i - 1)) && decide (IntKind.i64.wrap (i - 1) < ((Array.mk ps).size : Int)) && true then
        (Array.mk ps).toList.getD (IntKind.i64.wrap (i - 1)).toNat (Value.tuple { toList := [] }) = tV u ∧ bif decide (t.1 < u.1) then Q 7 else B else False else B
    else False else Q 1
theorem cpp (vs ps : List Value) (n i : Int) (t u : T3) (hp : (Array.mk ps).toList.getD i.toNat undef = tV t) (hq : (Array.mk ps).toList.getD (IntKind.i64.wrap (i - 1)).toNat undef = tV u) (B : List Value → AH → Prop) (Q : AExit → List Value → AH → Prop) :
    once 0 Tryz.prog SP2 [] noHooks 600 52 [0, 1, 18, 19, 20] [] [4] [] (oneLoop (codeOf Tryz.f9) 7) [fz ⟨vs⟩, fz ⟨ps⟩, fz ⟨ps⟩, .int .i64 n, .int .i64 i] h0 B Q =
      bif decide (i < n) then bif decide (0 ≤ i) && decide (i < ((Array.mk ps).size : Int)) && true then
        (Array.mk ps).toList.getD i.toNat (Value.tuple { toList := [] }) = tV t ∧ cpR vs ps i t u (B [fz ⟨vs⟩, fz ⟨ps⟩, fz ⟨ps⟩, .int .i64 n, .int .i64 (IntKind.i64.wrap (i + 1))] h0) (fun e => Q .ret [.int .i64 e] h0)
      else False else Q (.exit 0) [anyV] h0 := by
  rw [cpr, hp, hq]
  kernel_rfl
def preT (L : List T3) : Nat → Option Int
  | 0 => none
  | i + 1 => (L[i]?).map (·.1)
def cpEnd (K : AExit → List Value → AH → Prop) (e : Int) : Prop := bif decide (e = 0) then K (.exit 0) [anyV] h0 else K .ret [.int .i64 e] h0
theorem size_map (L : List T3) : (Array.mk (L.map tV)).size = L.length := by simp
theorem cp_loop {vs : List Value} (hv : okI vs = true) {L : List T3} (hL : Tok L) (K : AExit → List Value → AH → Prop) :
    ∀ (r i : Nat), i + r = L.length → cpEnd K (chkL (plF (vs.map keyV)) (preT L i) (L.drop i)) →
      iter 0 Tryz.prog SP2 [] noHooks 600 52 [0, 1, 18, 19, 20] [] [4] [] (oneLoop (codeOf Tryz.f9) 7) (r + 1) [fz ⟨vs⟩, fz ⟨L.map tV⟩, fz ⟨L.map tV⟩, .int .i64 (L.length : Int), .int .i64 (i : Int)] h0 K := by
  intro r
  have h16 := hL.2
  induction r with
  | zero =>
    intro i h1 h2
    rw [List.drop_eq_nil_of_le (by omega)] at h2
    exact (cpr _ _ _ _ _ K).mpr (pick_f (by simp; omega) h2)
  | succ r ih =>
    intro i h1 h2
    have hi : i < L.length := by omega
    obtain ⟨t, ht, hget, hdr⟩ := dropT hi
    have hs := size_map L
    have hnext : preT L (i + 1) = some t.1 := by show (L[i]?).map (·.1) = _; rw [hget]; rfl
    have hB : cpEnd K (chkL (plF (vs.map keyV)) (some t.1) (L.drop (i + 1))) → iter 0 Tryz.prog SP2 [] noHooks 600 52 [0, 1, 18, 19, 20] [] [4] [] (oneLoop (codeOf Tryz.f9) 7) (r + 1) [fz ⟨vs⟩, fz ⟨L.map tV⟩, fz ⟨L.map tV⟩, .int .i64 (L.length : Int), .int .i64 (IntKind.i64.wrap ((i : Int) + 1))] h0 K := by
      intro q
      rw [wrap1 (by omega)]
      exact ih (i + 1) (by omega) (by rw [hnext]; exact q)
    rw [hdr, chkL_cons] at h2
    have hu : ∃ u : T3, L[i - 1]? = some u := ⟨L[i - 1], List.getElem?_eq_getElem (by omega)⟩
    obtain ⟨u, hu⟩ := hu
    have ei : (IntKind.i64.wrap ((i : Int) - 1)).toNat = i - 1 := by rw [wrap_id _ (by omega) (by omega)]; omega
    refine (cpp vs (L.map tV) _ _ t u (getTi hget) (by rw [ei]; exact getT hu) _ K).mpr (pick_t (by simp; omega) (need_mk (by simp; omega) ⟨getTi hget, ?_⟩))
    unfold cpR
    by_cases c1 : 0 ≤ t.1
    · refine pick_t (decide_eq_true c1) ?_
      by_cases c2 : t.1 < 345686400000
      · refine pick_f (by rw [decide_eq_true c2]; rfl) (need_mk (by rw [hv, hL.1 t ht]; rfl) ?_)
        rw [if_pos ⟨c1, c2⟩] at h2
        cases c3 : plF (vs.map keyV) t.2.1 with
        | false =>
          rw [c3, if_neg Bool.false_ne_true] at h2
          exact pick_t rfl h2
        | true =>
          rw [c3, if_pos rfl] at h2
          refine pick_f rfl ?_
          cases i with
          | zero =>
            refine pick_f (by decide) (hB ?_)
            rw [if_neg (show ¬ lateB (preT L 0) t.1 = true from Bool.false_ne_true)] at h2
            exact h2
          | succ k =>
            have hu2 : L[k]? = some u := by simpa using hu
            have hpre : preT L (k + 1) = some u.1 := by show (L[k]?).map (·.1) = _; rw [hu2]; rfl
            have e0 : IntKind.i64.wrap (((k + 1 : Nat) : Int) - 1) = (k : Int) := by rw [wrap_id _ (by omega) (by omega)]; try omega
            rw [hpre] at h2
            refine pick_t (decide_eq_true (by omega)) (need_mk (by rw [e0]; simp; omega) ⟨by rw [e0]; exact getTi hu2, ?_⟩)
            by_cases c4 : t.1 < u.1
            · rw [if_pos (show lateB (some u.1) t.1 = true from decide_eq_true c4)] at h2
              exact pick_t (decide_eq_true c4) h2
            · have c5 : ¬ lateB (some u.1) t.1 = true := fun q => c4 (of_decide_eq_true q)
              rw [if_neg c5] at h2
              exact pick_f (decide_eq_false c4) (hB h2)
      · rw [if_neg (fun q => c2 q.2)] at h2
        exact pick_t (by rw [decide_eq_false c2]; rfl) h2
    · rw [if_neg (fun q => c1 q.1)] at h2
      exact pick_f (decide_eq_false c1) h2
theorem one7 : (loopAt (codeOf Tryz.f9) 7).length = 1 := by kernel_rfl
theorem someCP : Tryz.f9.body.isSome = true := by kernel_rfl
/-- What is wrong with probes. -/
def ckV (vs ps : List Value) : Int := chkL (plF (vs.map keyV)) none (ps.map unT)
theorem cp_fn {vs ps : List Value} (hv : okI vs = true) (hp : okT ps = true) : FnOK 0 Tryz.prog 9 ⟨[fz ⟨vs⟩, fz ⟨ps⟩]⟩ h0 (fun v _ => v = .int .i64 (ckV vs ps)) := by
  obtain ⟨L, hL, rfl⟩ := okT_iff.1 hp
  have h16 := hL.2
  have hsp : LSpec 0 Tryz.prog 52 (oneLoop (codeOf Tryz.f9) 7) (hookLS 0 52 [0, 1, 18, 19, 20] [] [4] (fun vals h K => (vals = [fz ⟨vs⟩, fz ⟨L.map tV⟩, fz ⟨L.map tV⟩, .int .i64 (L.length : Int), .int .i64 0] ∧ h = h0) ∧ bif decide (ckV vs (L.map tV) = 0) then K (.exit 0) [anyV] h0 else K .ret [.int .i64 (ckV vs (L.map tV))] h0)) := by
    refine hook_ok (G := []) (L := noHooks) (f := 600) (sameX := []) SP2_ok mixed (by decide) (loops_none _ _ _ _) ?_
    rintro vals h K ⟨⟨rfl, rfl⟩, hK⟩
    refine ⟨_, cp_loop hv hL K L.length 0 (by omega) ?_⟩
    unfold ckV at hK
    rw [unT_map] at hK
    exact hK
  refine FnOK.ttree SP2_ok mixed Tryz.func9 someCP (loops_one one7 hsp) (cpf vs (L.map tV) (ckV vs (L.map tV)) _ (fun v => v = .int .i64 (ckV vs (L.map tV)))) ?_
  refine need_mk hv (pick_f (decide_eq_false (by rw [size_map]; omega)) ⟨⟨by rw [size_map]; rfl, rfl⟩, ?_⟩)
  by_cases q : ckV vs (L.map tV) = 0
  · exact pick_t (decide_eq_true q) (by rw [q])
  · exact pick_f (decide_eq_false q) rfl
/-- What holds of empty frozen lists holds of nil. -/
theorem nil_call {P : Program} {f : FuncId} {big big2 : List Value} {H H' : AH} {v : Value} (hl : big.length = big2.length) (hx : ∀ (i : Nat) u, big[i]? = some u → big2[i]? = some u ∨ ∃ c, u = fz ⟨[]⟩ ∧ big2[i]? = some (.slice none 0 c)) (h : CallOK P f ⟨big⟩ H v H') : CallOK P f ⟨big2⟩ H v H' := by
  intro N w args' hargs hr hf
  refine h N w args' ⟨by rw [← hargs.1]; simpa using hl, fun i u u' a b => ?_⟩ hr hf
  rcases hx i u (by simpa using a) with q | ⟨c, rfl, q⟩
  · exact hargs.2 i u u' (by simpa using q) b
  · have := hargs.2 i (.slice none 0 c) u' (by simpa using q) b
    cases this
    exact .fz0 none c
theorem asFz_eq {x : Value} {xs : List Value} (hx : asFz x = some xs) : x = fz ⟨xs⟩ ∨ (xs = [] ∧ ∃ c, x = .slice none 0 c) := by
  unfold asFz at hx
  split at hx
  · cases hx; exact .inl rfl
  · rename_i c; cases hx; exact .inr ⟨rfl, c, rfl⟩
  · cases hx
/-- nil as the last argument. -/
theorem asFz_last {P : Program} {f : FuncId} {x : Value} {xs pre : List Value} {H H' : AH} {v : Value} (hx : asFz x = some xs) (h : CallOK P f ⟨pre ++ [fz ⟨xs⟩]⟩ H v H') : CallOK P f ⟨pre ++ [x]⟩ H v H' := by
  rcases asFz_eq hx with rfl | ⟨rfl, c, rfl⟩
  · exact h
  · refine nil_call (by simp) (fun i u hu => ?_) h
    rcases Nat.lt_or_ge i pre.length with q | q
    · left; rw [List.getElem?_append_left q] at hu ⊢; exact hu
    · rw [List.getElem?_append_right q] at hu ⊢
      cases hk : i - pre.length with
      | zero => rw [hk] at hu; simp at hu; exact .inr ⟨c, hu.symm, by simp⟩
      | succ k => rw [hk] at hu; simp at hu
noncomputable def spCp (f : FuncId) (args : Array Value) (h : AH) : Option (Bool × Value × AH) :=
  cond (Nat.beq f 9) (match args with
    | ⟨[.func (.yield 0) ⟨vs⟩ ⟨[]⟩, p]⟩ => match asFz p with
      | some ps => some (okI vs && okT ps, .int .i64 (ckV vs ps), h)
      | none => none
    | _ => none) none
theorem spCp_ok : SpOK spCp := by
  intro f args h v h' hs
  unfold spCp at hs
  obtain ⟨hf, hs2⟩ := cond_some hs
  clear hs
  have := Nat.eq_of_beq_eq_true hf
  subst this
  split at hs2
  · split at hs2
    · rename_i vs p ps hp
      injection hs2 with hs
      injection hs with hb hs
      injection hs with hv hh
      subst hv hh
      rw [Bool.and_eq_true] at hb
      exact ⟨asFz_last (pre := [_]) hp (FnOK.pure (cp_fn hb.1 hb.2) rfl rfl h), Nat.le_refl _⟩
    · cases hs2
  · cases hs2

/-! 'Equal' -/
theorem eqr (vs : List Value) (n i : Int) (B : List Value → AH → Prop) (Q : AExit → List Value → AH → Prop) : (once 0 Tryz.prog SP0 [] noHooks 600 26 [0, 1, 12, 13] [] [4] [] (oneLoop (codeOf Tryz.f17) 4) [fz ⟨vs⟩, fz ⟨vs⟩, .int .i64 n, .int .i64 i] h0 B Q) = bif decide (i < n) then bif decide (0 ≤ i) && decide (i < ((Array.mk vs).size : Int)) && true then (Array.mk vs).toList.getD i.toNat (Value.tuple { toList := [] }) = Value.agg { toList := [Value.int IntKind.i64 (toInt (((Array.mk vs).toList.getD i.toNat undef).cells.toList.getD 0 (Value.tuple { toList := [] }))), Value.string (toStr (((Array.mk vs).toList.getD i.toNat undef).cells.toList.getD 1 (Value.tuple { toList := [] }))), Value.bool (Ev.toBool (((Array.mk vs).toList.getD i.toNat undef).cells.toList.getD 2 undef))] } ∧ bif decide (0 ≤ i) && decide (i < ((Array.mk vs).size : Int)) && true then (Array.mk vs).toList.getD i.toNat (Value.tuple { toList := [] }) = Value.agg { toList := [Value.int IntKind.i64 (toInt (((Array.mk vs).toList.getD i.toNat undef).cells.toList.getD 0 (Value.tuple { toList := [] }))), Value.string (toStr (((Array.mk vs).toList.getD i.toNat undef).cells.toList.getD 1 (Value.tuple { toList := [] }))), Value.bool (Ev.toBool (((Array.mk vs).toList.getD i.toNat undef).cells.toList.getD 2 undef))] } ∧ bif !(toInt (((Array.mk vs).toList.getD i.toNat undef).cells.toList.getD 0 (Value.tuple { toList := [] })) == toInt (((Array.mk vs).toList.getD i.toNat undef).cells.toList.getD 0 (Value.tuple { toList := [] })) && (toStr (((Array.mk vs).toList.getD i.toNat undef).cells.toList.getD 1 (Value.tuple { toList := [] })) == toStr (((Array.mk vs).toList.getD i.toNat undef).cells.toList.getD 1 (Value.tuple { toList := [] })) && (Ev.toBool (((Array.mk vs).toList.getD i.toNat undef).cells.toList.getD 2 undef) == Ev.toBool (((Array.mk vs).toList.getD i.toNat undef).cells.toList.getD 2 undef) && true))) then Q AExit.ret [Value.bool false] { next := 0, low := 0, blocks := [] } else B [Value.func (Fn.yield 0) { toList := vs } { toList := [] }, Value.func (Fn.yield 0) { toList := vs } { toList := [] }, Value.int IntKind.i64 n, Value.int IntKind.i64 (IntKind.i64.wrap (i + 1))] { next := 0, low := 0, blocks := [] } else False else False else Q (AExit.exit 0) [Value.func (Fn.yield 2) { toList := [] } { toList := [] }] { next := 0, low := 0, blocks := [] } := by kernel_rfl

theorem eqf (vs : List Value) (C : List Value → AH → Prop) (Q : Value → Prop) : (tfn Tryz.prog SP0 [] (hook1 4 (hookLS 0 26 [0, 1, 12, 13] [] [4] (fun vals h K => C vals h ∧ K (.exit 0) [anyV] h0))) 600 [] Tryz.f17 [fz ⟨vs⟩, fz ⟨vs⟩] h0 (fun v _ => Q v)) = bif ((Array.mk vs).size : Int) != ((Array.mk vs).size : Int) then Q (Value.bool false) else C [Value.func (Fn.yield 0) { toList := vs } { toList := [] }, Value.func (Fn.yield 0) { toList := vs } { toList := [] }, Value.int IntKind.i64 ((Array.mk vs).size : Int), Value.int IntKind.i64 0] { next := 0, low := 0, blocks := [] } ∧ Q (Value.bool true) := by kernel_rfl

theorem eqp (vs : List Value) (n i : Int) (t : T3) (hp : (Array.mk vs).toList.getD i.toNat undef = tV t) (B : List Value → AH → Prop) (Q : AExit → List Value → AH → Prop) :
    once 0 Tryz.prog SP0 [] noHooks 600 26 [0, 1, 12, 13] [] [4] [] (oneLoop (codeOf Tryz.f17) 4) [fz ⟨vs⟩, fz ⟨vs⟩, .int .i64 n, .int .i64 i] h0 B Q =
      bif decide (i < n) then bif decide (0 ≤ i) && decide (i < ((Array.mk vs).size : Int)) && true then
        (Array.mk vs).toList.getD i.toNat (Value.tuple { toList := [] }) = tV t ∧ bif decide (0 ≤ i) && decide (i < ((Array.mk vs).size : Int)) && true then
        (Array.mk vs).toList.getD i.toNat (Value.tuple { toList := [] }) = tV t ∧ bif !(t.1 == t.1 && (t.2.1 == t.2.1 && (t.2.2 == t.2.2 && true))) then Q .ret [.bool false] h0 else B [fz ⟨vs⟩, fz ⟨vs⟩, .int .i64 n, .int .i64 (IntKind.i64.wrap (i + 1))] h0
      else False else False else Q (.exit 0) [anyV] h0 := by
  rw [eqr, hp]
  kernel_rfl
theorem eq_loop {L : List T3} (h16 : L.length ≤ 16) (K : AExit → List Value → AH → Prop) (hK : K (.exit 0) [anyV] h0) :
    ∀ (r i : Nat), i + r = L.length → iter 0 Tryz.prog SP0 [] noHooks 600 26 [0, 1, 12, 13] [] [4] [] (oneLoop (codeOf Tryz.f17) 4) (r + 1) [fz ⟨L.map tV⟩, fz ⟨L.map tV⟩, .int .i64 (L.length : Int), .int .i64 (i : Int)] h0 K := by
  intro r
  induction r with
  | zero =>
    intro i h1
    exact (eqr _ _ _ _ K).mpr (pick_f (by simp; omega) hK)
  | succ r ih =>
    intro i h1
    have hi : i < L.length := by omega
    obtain ⟨t, ht, hget, hdr⟩ := dropT hi
    have hs := size_map L
    have hb : (decide (0 ≤ (i : Int)) && decide ((i : Int) < ((Array.mk (L.map tV)).size : Int)) && true) = true := by simp; omega
    refine (eqp (L.map tV) _ _ t (getTi hget) _ K).mpr (pick_t (by simp; omega) (need_mk hb ⟨getTi hget, need_mk hb ⟨getTi hget, pick_f (by rw [ba_self]; simp) ?_⟩⟩))
    rw [wrap1 (by omega)]
    exact ih (i + 1) (by omega)
theorem one4q : (loopAt (codeOf Tryz.f17) 4).length = 1 := by kernel_rfl
theorem someEQ : Tryz.f17.body.isSome = true := by kernel_rfl
theorem eq_fn {vs : List Value} (hp : okT vs = true) : FnOK 0 Tryz.prog 17 ⟨[fz ⟨vs⟩, fz ⟨vs⟩]⟩ h0 (fun v _ => v = .bool true) := by
  obtain ⟨L, hL, rfl⟩ := okT_iff.1 hp
  have hsp : LSpec 0 Tryz.prog 26 (oneLoop (codeOf Tryz.f17) 4) (hookLS 0 26 [0, 1, 12, 13] [] [4] (fun vals h K => (vals = [fz ⟨L.map tV⟩, fz ⟨L.map tV⟩, .int .i64 (L.length : Int), .int .i64 0] ∧ h = h0) ∧ K (.exit 0) [anyV] h0)) := by
    refine hook_ok (G := []) (L := noHooks) (f := 600) (sameX := []) SP0_ok mixed (by decide) (loops_none _ _ _ _) ?_
    rintro vals h K ⟨⟨rfl, rfl⟩, hK⟩
    exact ⟨_, eq_loop hL.2 K hK L.length 0 (by omega)⟩
  refine FnOK.ttree SP0_ok mixed Tryz.func17 someEQ (loops_one one4q hsp) (eqf (L.map tV) _ (fun v => v = .bool true)) ?_
  exact pick_f (by simp) ⟨⟨by rw [size_map]; rfl, rfl⟩, rfl⟩
noncomputable def spEq (f : FuncId) (args : Array Value) (h : AH) : Option (Bool × Value × AH) :=
  cond (Nat.beq f 17) (match args with
    | ⟨[.func (.yield 0) ⟨vs⟩ ⟨[]⟩, c]⟩ => match asFz c with
      | some us => some (okT vs && sameL vs us, .bool true, h)
      | none => none
    | _ => none) none
theorem spEq_ok : SpOK spEq := by
  intro f args h v h' hs
  unfold spEq at hs
  obtain ⟨hf, hs2⟩ := cond_some hs
  clear hs
  have := Nat.eq_of_beq_eq_true hf
  subst this
  split at hs2
  · split at hs2
    · rename_i vs p us hp
      injection hs2 with hs
      injection hs with hb hs
      injection hs with hv hh
      subst hv hh
      rw [Bool.and_eq_true] at hb
      obtain ⟨h1, h2⟩ := hb
      have h2 := sameL_iff.1 h2
      subst h2
      exact ⟨asFz_last (pre := [_]) hp (FnOK.pure (eq_fn h1) rfl rfl h), Nat.le_refl _⟩
    · cases hs2
  · cases hs2

/-! 'Clone' -/
theorem clfP (vs : List Value) (Q : Value → Option Obj → Prop) : (ffn Tryz.prog SP0 [] 600 [] Tryz.f12 [fz ⟨vs⟩] h0 (fun v h => Q v (h.get (blkOf2 v)))) = bif Nat.blt 0 (Array.mk vs).size then bif (Array.mk vs).toList.all fun x => x.cells.size.beq 3 then bif (0 + (Array.mk vs).size).ble 0 then False else bif (0 + (Array.mk vs).size).ble 9223372036854775807 && ((0 + (Array.mk vs).size) * 32).ble 140737488355328 then bif (List.flatMap (fun x => x.cells.toList) (Array.mk vs).toList).all oneCell then Q (Value.slice (some { block := 1, off := 0 }) (0 + (Array.mk vs).size) (0 + (Array.mk vs).size)) (some (Obj.cells { toList := [] ++ List.flatMap (fun x => x.cells.toList) (Array.mk vs).toList } 43 (0, 0))) else False else False else False else False := by kernel_rfl

theorem clfT (vs : List Value) (Q : Value → Option Obj → Prop) : (ffn Tryz.prog SP0 [] 600 [] Tryz.f15 [fz ⟨vs⟩] h0 (fun v h => Q v (h.get (blkOf2 v)))) = bif Nat.blt 0 (Array.mk vs).size then bif (Array.mk vs).toList.all fun x => x.cells.size.beq 3 then bif (0 + (Array.mk vs).size).ble 0 then False else bif (0 + (Array.mk vs).size).ble 9223372036854775807 && ((0 + (Array.mk vs).size) * 32).ble 140737488355328 then bif (List.flatMap (fun x => x.cells.toList) (Array.mk vs).toList).all oneCell then Q (Value.slice (some { block := 1, off := 0 }) (0 + (Array.mk vs).size) (0 + (Array.mk vs).size)) (some (Obj.cells { toList := [] ++ List.flatMap (fun x => x.cells.toList) (Array.mk vs).toList } 48 (0, 0))) else False else False else False else False := by kernel_rfl

theorem someCLP : Tryz.f12.body.isSome = true := by kernel_rfl
theorem someCLT : Tryz.f15.body.isSome = true := by kernel_rfl
noncomputable def spCl (f : FuncId) (t : TypeId) (g : FuncId) (args : Array Value) (h : AH) : Option (Bool × Value × AH) :=
  cond (Nat.beq g f) (match args with
    | ⟨[.func (.yield 0) ⟨vs⟩ ⟨[]⟩]⟩ => some (okT vs && !isE vs, .slice (some ⟨h.next, 0, none⟩) vs.length vs.length, h.push (.cells ⟨vs.flatMap fun x => x.cells.toList⟩ t (1, 1)))
    | _ => none) none
theorem cl_leaf {L : List T3} (hL : Tok L) (hne : L ≠ []) {X : Prop} (hX : X) {s : Nat} (hs : s = 3) : bif Nat.blt 0 (Array.mk (L.map tV)).size then bif (Array.mk (L.map tV)).toList.all fun x => x.cells.size.beq s then
    bif (0 + (Array.mk (L.map tV)).size).ble 0 then False else bif (0 + (Array.mk (L.map tV)).size).ble 9223372036854775807 && ((0 + (Array.mk (L.map tV)).size) * 32).ble 140737488355328 then
    bif (List.flatMap (fun x => x.cells.toList) (Array.mk (L.map tV)).toList).all oneCell then X else False else False else False else False := by
  have h16 := hL.2
  have hsz := size_map L
  have hpos : 0 < L.length := List.length_pos_iff.2 hne
  subst hs
  refine need_mk (by rw [Nat.blt, hsz, Nat.ble_eq]; omega) (need_mk ?_ (pick_f ?_ (need_mk ?_ (need_mk ?_ hX))))
  · rw [List.all_eq_true]
    intro x hx
    obtain ⟨t, _, rfl⟩ := List.mem_map.1 (show x ∈ L.map tV from hx)
    rfl
  · rw [hsz]
    cases hb : (0 + L.length).ble 0 with
    | false => rfl
    | true => rw [Nat.ble_eq] at hb; omega
  · rw [hsz, Bool.and_eq_true, Nat.ble_eq, Nat.ble_eq]; omega
  · show (List.flatMap (fun x => x.cells.toList) (L.map tV)).all oneCell = true
    rw [flatC, List.all_eq_true]
    intro v hv
    obtain ⟨t, _, h⟩ := List.mem_flatMap.1 hv
    simp only [tC, List.mem_cons, List.not_mem_nil, or_false] at h
    rcases h with rfl | rfl | rfl <;> rfl
theorem ren_mark {b n m : Nat} : ren2 [(b, 0)] (.slice (some ⟨b, 0, none⟩) n m) = some (.slice (some ⟨0, 0, none⟩) n m) := by
  simp [ren2, ren1, renB]
theorem spClP_ok : SpOK (spCl 12 43) := by
  intro f args h v h' hs
  unfold spCl at hs
  obtain ⟨hf, hs2⟩ := cond_some hs
  clear hs
  have := Nat.eq_of_beq_eq_true hf
  subst this
  split at hs2
  · injection hs2 with hs
    injection hs with hb hs
    injection hs with hv hh
    subst hv hh
    simp only [Bool.and_eq_true, Bool.not_eq_true'] at hb
    obtain ⟨hb1, hb2⟩ := hb
    obtain ⟨L, hL, rfl⟩ := okT_iff.1 hb1
    have hne : L ≠ [] := fun q => by rw [q, isE_iff.2 (show [].map tV = [] from rfl)] at hb2; cases hb2
    refine ⟨?_, by simp [AH.push]⟩
    refine FnOK.new1 (u := .slice (some ⟨0, 0, none⟩) (L.map tV).length (L.map tV).length) (cs := (L.map tV).flatMap fun x => x.cells.toList) (t := 43) (fr := (1, 1)) (H := h) (args := [fz ⟨L.map tV⟩]) ?_ rfl ?_ ?_
    · refine FnOK.weak1 ((FnOK.ftree SP0_ok mixed Tryz.func12 someCLP (clfP (L.map tV) (fun v o => v = .slice (some ⟨1, 0, none⟩) (L.map tV).length (L.map tV).length ∧ o = some (.cells ⟨(L.map tV).flatMap fun x => x.cells.toList⟩ 43 (0, 0)))) ?_).mono ?_)
      · exact cl_leaf hL hne ⟨by rw [Nat.zero_add]; rfl, rfl⟩ rfl
      · rintro v g ⟨rfl, hg⟩
        exact ⟨_, _, Weak.mark 0 1 hg, 1, ren_mark, look_setB_self hg⟩
    · intro x hx
      rw [flatC] at hx
      exact p1_tC x hx
    · simp [ren2, ren1, renB]
  · cases hs2
theorem spClT_ok : SpOK (spCl 15 48) := by
  intro f args h v h' hs
  unfold spCl at hs
  obtain ⟨hf, hs2⟩ := cond_some hs
  clear hs
  have := Nat.eq_of_beq_eq_true hf
  subst this
  split at hs2
  · injection hs2 with hs
    injection hs with hb hs
    injection hs with hv hh
    subst hv hh
    simp only [Bool.and_eq_true, Bool.not_eq_true'] at hb
    obtain ⟨hb1, hb2⟩ := hb
    obtain ⟨L, hL, rfl⟩ := okT_iff.1 hb1
    have hne : L ≠ [] := fun q => by rw [q, isE_iff.2 (show [].map tV = [] from rfl)] at hb2; cases hb2
    refine ⟨?_, by simp [AH.push]⟩
    refine FnOK.new1 (u := .slice (some ⟨0, 0, none⟩) (L.map tV).length (L.map tV).length) (cs := (L.map tV).flatMap fun x => x.cells.toList) (t := 48) (fr := (1, 1)) (H := h) (args := [fz ⟨L.map tV⟩]) ?_ rfl ?_ ?_
    · refine FnOK.weak1 ((FnOK.ftree SP0_ok mixed Tryz.func15 someCLT (clfT (L.map tV) (fun v o => v = .slice (some ⟨1, 0, none⟩) (L.map tV).length (L.map tV).length ∧ o = some (.cells ⟨(L.map tV).flatMap fun x => x.cells.toList⟩ 48 (0, 0)))) ?_).mono ?_)
      · exact cl_leaf hL hne ⟨by rw [Nat.zero_add]; rfl, rfl⟩ rfl
      · rintro v g ⟨rfl, hg⟩
        exact ⟨_, _, Weak.mark 0 1 hg, 1, ren_mark, look_setB_self hg⟩
    · intro x hx
      rw [flatC] at hx
      exact p1_tC x hx
    · simp [ren2, ren1, renB]
  · cases hs2
end Go.Proofs.YtbeodpcdjlphkaaGreatDoor
