/-
  Limits: rows of pieces.
-/
import Derived.Test.YtbigicdojndnjaaGreatDoorLmC
namespace Go.Proofs.YtbigicdojndnjaaGreatDoor
open Go.Ev Go.RowKit LimLaw

abbrev P2 := Int × Int
def pcC (p : P2) : List Value := [.int .i64 p.1, .int .i64 p.2]
def pcV (p : P2) : Value := .agg ⟨pcC p⟩
def rdP (e : List Value) : P2 := (toInt (e.getD 0 undef), toInt (e.getD 1 undef))
def rdL : Nat → List Value → List P2
  | 0, _ => []
  | n + 1, l => rdP (l.take 2) :: rdL n (l.drop 2)
open Classical in
noncomputable def okC (n : Nat) (cs : List Value) : Bool := @decide (∃ L : List P2, L.length = n ∧ cs = L.flatMap pcC) (Classical.propDecidable _)
theorem okC_iff {n : Nat} {cs : List Value} : okC n cs = true ↔ ∃ L : List P2, L.length = n ∧ cs = L.flatMap pcC := by unfold okC; exact @decide_eq_true_iff _ (Classical.propDecidable _)
theorem pcC_len : ∀ L : List P2, (L.flatMap pcC).length = L.length * 2
  | [] => rfl
  | t :: l => by
    rw [List.flatMap_cons, List.length_append, pcC_len l, List.length_cons]
    show 2 + _ = _
    omega
theorem rdL_flat : ∀ L : List P2, rdL L.length (L.flatMap pcC) = L
  | [] => rfl
  | t :: l => by
    have := rdL_flat l
    rw [List.flatMap_cons, List.length_cons]
    show rdP (pcC t) :: rdL l.length (l.flatMap pcC) = _
    rw [this]
    rfl
theorem get2 : ∀ {L : List P2} {j : Nat} {t : P2}, L[j]? = some t → List.take 2 (List.drop (j * 2) (L.flatMap pcC)) = pcC t
  | u :: l, 0, t, h => by
    simp only [List.getElem?_cons_zero, Option.some.injEq] at h
    subst h
    rfl
  | u :: l, j + 1, t, h => by
    have := get2 (L := l) (j := j) (t := t) (by simpa using h)
    rw [← this, Nat.succ_mul, Nat.add_comm, ← List.drop_drop]
    rfl
theorem p1_pcC {L : List P2} : ∀ v ∈ L.flatMap pcC, p1 v = true := by
  intro v hv
  obtain ⟨t, _, h⟩ := List.mem_flatMap.1 hv
  simp only [pcC, List.mem_cons, List.not_mem_nil, or_false] at h
  rcases h with rfl | rfl <;> rfl
theorem nnF (L : List P2) (t : TypeId) (fr : Nat × Nat) : NoNames (.cells ⟨L.flatMap pcC⟩ t fr) := fun v hv => p1_pcC v (by simpa using hv)
theorem dropT {L : List P2} {i : Nat} (hi : i < L.length) : ∃ t, t ∈ L ∧ L[i]? = some t ∧ L.drop i = t :: L.drop (i + 1) :=
  ⟨L[i], List.getElem_mem hi, List.getElem?_eq_getElem hi, List.drop_eq_getElem_cons hi⟩
/-- What is left behind at a moment. -/
def keep (w : Int) (p : P2) : Bool := !decide (p.1 ≤ w)
def ixI (w : Int) : Int → List P2 → Int
  | _, [] => -1
  | i, t :: l => bif keep w t then ixI w (i + 1) l else i
noncomputable def SP0 : SC := ⟨idn, fun _ _ _ => none, true, true⟩
theorem SP0_ok : SP0.cfg.OK Tryz.prog := none_ok.cfg
def clo : Value := .func (.func 274) ⟨[]⟩ ⟨[.pointer (some ⟨1, 0, none⟩)]⟩
theorem ixI_cons (w : Int) (i : Int) (t : P2) (l : List P2) : ixI w i (t :: l) = bif keep w t then ixI w (i + 1) l else i := rfl
theorem ixI_spec (w : Int) : ∀ (L : List P2) (i : Nat), (ixI w (i : Int) L = -1 ∧ L.filter (keep w) = L) ∨ ∃ k : Nat, ixI w (i : Int) L = ((i + k : Nat) : Int) ∧ k < L.length ∧ L.take k = (L.take (k + 1)).filter (keep w)
  | [], i => .inl ⟨rfl, rfl⟩
  | t :: l, i => by
    rw [ixI_cons]
    cases hk : keep w t with
    | false =>
      exact .inr ⟨0, by simp, by simp, by simp [hk]⟩
    | true =>
      have e : ((i : Int) + 1) = ((i + 1 : Nat) : Int) := by omega
      rw [e, cond_true]
      rcases ixI_spec w l (i + 1) with ⟨h1, h2⟩ | ⟨k, h1, h2, h3⟩
      · exact .inl ⟨h1, by rw [List.filter_cons_of_pos hk, h2]⟩
      · refine .inr ⟨k + 1, by rw [h1]; congr 1; omega, by simpa using h2, ?_⟩
        rw [List.take_succ_cons, List.take_succ_cons, List.filter_cons_of_pos hk, ← h3]
theorem size_flat (L : List P2) : (Array.mk (L.flatMap pcC)).size = L.length * 2 := pcC_len L
theorem ble2 {L : List P2} {i : Nat} (hi : i < L.length) : (0 + (i : Int).toNat * 2 + 2).ble (Array.mk (L.flatMap pcC)).size = true := by
  rw [size_flat, Nat.ble_eq]; omega
theorem get2i {L : List P2} {j : Nat} {t : P2} (h : L[j]? = some t) : List.take 2 (List.drop (0 + (j : Int).toNat * 2) (L.flatMap pcC)) = pcC t := by
  rw [Nat.zero_add]; exact get2 h
theorem set_flat (t : P2) : ∀ (L : List P2) (i : Nat), i < L.length → (L.flatMap pcC).take (i * 2) ++ pcC t ++ (L.flatMap pcC).drop (i * 2 + 2) = (L.set i t).flatMap pcC := by
  intro L
  induction L with
  | nil => intro i h; cases h
  | cons u l ih =>
    intro i h
    cases i with
    | zero => rfl
    | succ i =>
      have := ih i (by simpa using h)
      rw [List.set_cons_succ, List.flatMap_cons, List.flatMap_cons, ← this, Nat.succ_mul]
      have h3 : (pcC u).length = 2 := rfl
      rw [List.take_append, List.drop_append, h3, List.take_of_length_le (by rw [h3]; omega), List.drop_of_length_le (by rw [h3]; omega), Nat.add_sub_cancel, show i * 2 + 2 + 2 - 2 = i * 2 + 2 by omega]
      simp
theorem put_set {L : List P2} {i : Nat} (t : P2) (hi : i < L.length) : putAll ⟨L.flatMap pcC⟩ (0 + (i : Int).toNat * 2) (pcC t) = ⟨(L.set i t).flatMap pcC⟩ := by
  have hl := pcC_len L
  rw [putAll_eq _ _ _ (by show 0 + (i : Int).toNat * 2 + 2 ≤ (L.flatMap pcC).length; rw [hl]; omega)]
  show (⟨(L.flatMap pcC).take (0 + i * 2) ++ pcC t ++ (L.flatMap pcC).drop (0 + i * 2 + 2)⟩ : Array Value) = _
  rw [Nat.zero_add, set_flat t L i hi]
theorem nnB (L : List P2) (t : TypeId) : NoNames (.cells ⟨L.flatMap pcC⟩ t (1, 1)) := nnF L t (1, 1)
def zC : Array Value := #[.int .i64 0, .int .i64 0]
theorem zl_p1 (n : Nat) : ∀ v ∈ zlist zC n, p1 v = true := by
  intro v hv
  simp only [zlist, List.mem_map] at hv
  obtain ⟨i, _, rfl⟩ := hv
  have hi : i % zC.size < zC.size := Nat.mod_lt _ (by decide)
  rw [Array.getElem?_eq_getElem hi]
  have key : ∀ (k : Nat) (h : k < zC.size), p1 (zC[k]) = true := by
    intro k h
    have h : k < 2 := h
    match k, h with
    | 0, _ => rfl
    | 1, _ => rfl
  exact key _ hi
def yH (w : Int) : List (Nat × Obj) := [(1, .cells ⟨[.int .i64 w]⟩ 3 (0, 0))]
def dfH (cs : List Value) (w : Int) : AH := ⟨2, 2, (0, .cells ⟨cs⟩ 347 (1, 1)) :: yH w⟩
theorem ren_two {b y : Nat} (h : b ≠ y) : renOk [(b, 0), (y, 1)] 2 = true := by
  have h1 : Nat.beq b y = false := by cases q : Nat.beq b y with | false => rfl | true => exact (h (Nat.eq_of_beq_eq_true q)).elim
  have h2 : Nat.beq 0 1 = false := rfl
  simp [renOk, renB, invB, eqO, h1, h2]
noncomputable def spIx (g : FuncId) (args : Array Value) (h : AH) : Option (Bool × Value × AH) :=
  cond (Nat.beq g 276) (match args with
    | ⟨[.slice (some ⟨b, 0, none⟩) n m, .func (.func c) ⟨[]⟩ ⟨[.pointer (some ⟨y, 0, none⟩)]⟩]⟩ => match h.get b, h.get y with
      | some (.cells ⟨cs⟩ t1 fr), some (.cells ⟨[.int .i64 w]⟩ t2 fr2) => some (Nat.beq t1 347 && Nat.beq t2 3 && Nat.beq fr.1 1 && Nat.beq fr.2 1 && Nat.beq fr2.1 0 && Nat.beq fr2.2 0 && Nat.beq c 274 && Nat.beq m n && okC n cs && Nat.ble n 1000 && !Nat.beq b y, .int .i64 (ixI w 0 (rdL n cs)), h)
      | _, _ => none
    | _ => none) none
noncomputable def SP : SC := ⟨idn, spIx, true, true⟩

/-!  -/
theorem ixf (cs : List Value) (w r : Int) (n : Nat) (C : List Value → AH → Prop) (Q : Value → AH → Prop) :
    tfn Tryz.prog SP0 [] (hook1 2 (hookLS 2 19 [0, 1, 7, 8] [0] [4] (fun vals h K => C vals h ∧ bif decide (r = -1) then K (.exit 0) [anyV] (dfH cs w) else K .ret [.int .i64 r] (dfH cs w)))) 600 [] Tryz.f276 [.slice (some ⟨0, 0, none⟩) n n, clo] (dfH cs w) Q =
      (NoNames (.cells ⟨cs⟩ 347 (1, 1)) ∧ C [.slice (some ⟨0, 0, none⟩) n n, clo, .int .i64 (n : Int), .int .i64 0] (dfH cs w) ∧ bif decide (r = -1) then Q (.int .i64 (-1)) (dfH cs w) else Q (.int .i64 r) (dfH cs w)) := by kernel_rfl
theorem ixr (cs : List Value) (w : Int) (n : Nat) (m i : Int) (B : List Value → AH → Prop) (Q : AExit → List Value → AH → Prop) :
    once 2 Tryz.prog SP0 [] noHooks 600 19 [0, 1, 7, 8] [0] [4] [0] (oneLoop (codeOf Tryz.f276) 2) [.slice (some ⟨0, 0, none⟩) n n, clo, .int .i64 m, .int .i64 i] (dfH cs w) B Q =
      bif decide (i < m) then bif decide (0 ≤ i) && decide (i < (n : Int)) then bif (0 + i.toNat * 2 + 2).ble (Array.mk cs).size then
        Value.agg ⟨List.take 2 (List.drop (0 + i.toNat * 2) cs)⟩ = pcV (rdP (List.take 2 (List.drop (0 + i.toNat * 2) cs))) ∧
        bif decide ((rdP (List.take 2 (List.drop (0 + i.toNat * 2) cs))).1 ≤ w) then NoNames (.cells ⟨cs⟩ 347 (1, 1)) ∧ Q .ret [.int .i64 i] (dfH cs w) else
          NoNames (.cells ⟨cs⟩ 347 (1, 1)) ∧ B [.slice (some ⟨0, 0, none⟩) n n, clo, .int .i64 m, .int .i64 (IntKind.i64.wrap (i + 1))] (dfH cs w)
      else False else False else NoNames (.cells ⟨cs⟩ 347 (1, 1)) ∧ Q (.exit 0) [anyV] (dfH cs w) := by kernel_rfl
def ixEnd (K : AExit → List Value → AH → Prop) (H : AH) (r : Int) : Prop := bif decide (r = -1) then K (.exit 0) [anyV] H else K .ret [.int .i64 r] H
theorem ix_loop {L : List P2} (hl : L.length ≤ 1000) (w : Int) (K : AExit → List Value → AH → Prop) :
    ∀ (r i : Nat), i + r = L.length → ixEnd K (dfH (L.flatMap pcC) w) (ixI w (i : Int) (L.drop i)) →
      iter 2 Tryz.prog SP0 [] noHooks 600 19 [0, 1, 7, 8] [0] [4] [0] (oneLoop (codeOf Tryz.f276) 2) (r + 1) [.slice (some ⟨0, 0, none⟩) L.length L.length, clo, .int .i64 (L.length : Int), .int .i64 (i : Int)] (dfH (L.flatMap pcC) w) K := by
  intro r
  induction r with
  | zero =>
    intro i h1 h2
    rw [List.drop_eq_nil_of_le (by omega)] at h2
    exact (ixr _ _ _ _ _ _ K).mpr (pick_f (by simp; omega) ⟨nnB L _, h2⟩)
  | succ r ih =>
    intro i h1 h2
    have hi : i < L.length := by omega
    obtain ⟨t, ht, hget, hdr⟩ := dropT hi
    have e := get2i hget
    rw [hdr, ixI_cons] at h2
    refine (ixr _ _ _ _ _ _ K).mpr (pick_t (decide_eq_true (by omega)) (need_mk (by simp; omega) (need_mk (ble2 hi) ?_)))
    rw [e]
    refine ⟨rfl, ?_⟩
    show bif decide (t.1 ≤ w) then _ else _
    have hkd : decide (t.1 ≤ w) = !keep w t := by unfold keep; rw [Bool.not_not]
    rw [hkd]
    cases hk : keep w t with
    | false =>
      rw [hk, cond_false] at h2
      have h2 : bif decide ((i : Int) = -1) then _ else _ := h2
      rw [decide_eq_false (by omega)] at h2
      exact pick_t rfl ⟨nnB L _, h2⟩
    | true =>
      rw [hk, cond_true] at h2
      refine pick_f rfl ⟨nnB L _, ?_⟩
      rw [wrap1 (by omega)]
      refine ih (i + 1) (by omega) ?_
      have e : ((i : Int) + 1) = ((i + 1 : Nat) : Int) := by omega
      rw [← e]; exact h2
theorem oneIX : (loopAt (codeOf Tryz.f276) 2).length = 1 := by kernel_rfl
theorem someIX : Tryz.f276.body.isSome = true := by kernel_rfl
theorem ix_fn {L : List P2} (hl : L.length ≤ 1000) (w : Int) : FnOK 2 Tryz.prog 276 ⟨[.slice (some ⟨0, 0, none⟩) L.length L.length, clo]⟩ (dfH (L.flatMap pcC) w)
    (fun v g => v = .int .i64 (ixI w 0 L) ∧ g = dfH (L.flatMap pcC) w) := by
  have hsp : LSpec 2 Tryz.prog 19 (oneLoop (codeOf Tryz.f276) 2) (hookLS 2 19 [0, 1, 7, 8] [0] [4] (fun vals h K => (vals = [.slice (some ⟨0, 0, none⟩) L.length L.length, clo, .int .i64 (L.length : Int), .int .i64 0] ∧ h = dfH (L.flatMap pcC) w) ∧
      bif decide (ixI w 0 L = -1) then K (.exit 0) [anyV] (dfH (L.flatMap pcC) w) else K .ret [.int .i64 (ixI w 0 L)] (dfH (L.flatMap pcC) w))) := by
    refine hook_ok (G := []) (L := noHooks) (f := 600) (sameX := [0]) SP0_ok mixed (by decide) (loops_none _ _ _ _) ?_
    rintro vals h K ⟨⟨rfl, rfl⟩, hK⟩
    exact ⟨_, ix_loop hl w K L.length 0 (by omega) hK⟩
  refine FnOK.ttree SP0_ok mixed Tryz.func276 someIX (loops_one oneIX hsp) (ixf (L.flatMap pcC) w (ixI w 0 L) L.length _ (fun v g => v = .int .i64 (ixI w 0 L) ∧ g = dfH (L.flatMap pcC) w)) ?_
  refine ⟨nnB L _, ⟨rfl, rfl⟩, ?_⟩
  by_cases q : ixI w 0 L = -1
  · exact pick_t (decide_eq_true q) ⟨by rw [q], rfl⟩
  · exact pick_f (decide_eq_false q) ⟨rfl, rfl⟩
theorem spIx_ok : SpOK (spIx) := by
  intro f args h v h' hs
  unfold spIx at hs
  obtain ⟨hf, hs2⟩ := cond_some hs
  clear hs
  have := Nat.eq_of_beq_eq_true hf
  subst this
  split at hs2
  · split at hs2
    · rename_i b n m c y _ _ cs t1 fr w t2 fr2 hg1 hg2
      injection hs2 with hs
      injection hs with hb hs
      injection hs with hv hh
      subst hv hh
      simp only [Bool.and_eq_true, Bool.not_eq_true'] at hb
      obtain ⟨⟨⟨⟨⟨⟨⟨⟨⟨⟨b1, b2⟩, b3⟩, b4⟩, b5⟩, b6⟩, b7⟩, b8⟩, b9⟩, b10⟩, b11⟩ := hb
      obtain ⟨f1, f2⟩ := fr
      obtain ⟨f3, f4⟩ := fr2
      simp only at b3 b4 b5 b6
      have b1 := Nat.eq_of_beq_eq_true b1
      have b2 := Nat.eq_of_beq_eq_true b2
      have b3 := Nat.eq_of_beq_eq_true b3
      have b4 := Nat.eq_of_beq_eq_true b4
      have b5 := Nat.eq_of_beq_eq_true b5
      have b6 := Nat.eq_of_beq_eq_true b6
      have b7 := Nat.eq_of_beq_eq_true b7
      have b8 := Nat.eq_of_beq_eq_true b8
      obtain ⟨L, hL, hcs⟩ := okC_iff.1 b9
      have b10 := Nat.le_of_ble_eq_true b10
      subst b1 b2 b3 b4 b5 b6 b7 b8 hL hcs
      have hne : b ≠ y := fun q => by rw [q, Nat.beq_refl] at b11; cases b11
      have hbl : ∀ i o, Ev.look i (dfH (L.flatMap pcC) w).blocks = some o → (i = 0 ∧ o = .cells ⟨L.flatMap pcC⟩ 347 (1, 1)) ∨ (i = 1 ∧ o = .cells ⟨[.int .i64 w]⟩ 3 (0, 0)) := by
        intro i o ho
        match i, ho with
        | 0, ho => cases ho; exact .inl ⟨rfl, rfl⟩
        | 1, ho => cases ho; exact .inr ⟨rfl, rfl⟩
        | i + 2, ho => cases ho
      refine ⟨?_, Nat.le_refl _⟩
      rw [rdL_flat]
      refine FnOK.reads (r := [(b, 0), (y, 1)]) (bl := (dfH (L.flatMap pcC) w).blocks) (small := [.slice (some ⟨0, 0, none⟩) L.length L.length, clo]) (ren_two hne) ?_ ?_ ?_ ?_ rfl
      · simp [ren2s, ren2, ren1, ren0, renB, renL, clo, b11]
      · intro i o ho
        rcases hbl i o ho with ⟨rfl, rfl⟩ | ⟨rfl, rfl⟩
        · exact ⟨b, by simp, hg1⟩
        · exact ⟨y, by simp, hg2⟩
      · intro i o ho
        rcases hbl i o ho with ⟨rfl, rfl⟩ | ⟨rfl, rfl⟩
        · exact ⟨_, _, _, rfl, nnB L 347⟩
        · refine ⟨_, _, _, rfl, fun x hx => ?_⟩
          have hx : x ∈ [Value.int .i64 w] := hx
          simp only [List.mem_cons, List.not_mem_nil, or_false] at hx
          rcases hx with rfl; rfl
      · refine (ix_fn b10 w).mono ?_
        rintro v g ⟨rfl, rfl⟩
        exact ⟨rfl, fun i o ho => ho⟩
    · cases hs2
  · cases hs2
theorem dfr (cs : List Value) (w : Int) (n : Nat) (i j : Int) (B : List Value → AH → Prop) (Q : AExit → List Value → AH → Prop) :
    once 2 Tryz.prog SP [] noHooks 600 42 [0, 1, 5, 6] [0] [0, 5] [0] (oneLoop (codeOf Tryz.f273) 5) [.slice (some ⟨0, 0, none⟩) n n, clo, .int .i64 i, .int .i64 j] (dfH cs w) B Q =
      bif decide (j < (n : Int)) then bif decide (0 ≤ j) && decide (j < (n : Int)) then bif (0 + j.toNat * 2 + 2).ble (Array.mk cs).size then
        Value.agg ⟨List.take 2 (List.drop (0 + j.toNat * 2) cs)⟩ = pcV (rdP (List.take 2 (List.drop (0 + j.toNat * 2) cs))) ∧
        bif !decide ((rdP (List.take 2 (List.drop (0 + j.toNat * 2) cs))).1 ≤ w) then
          bif decide (0 ≤ i) && decide (i < (n : Int)) then bif (0 + i.toNat * 2 + 2).ble (Array.mk cs).size && true && true then
            NoNames (.cells (putAll ⟨cs⟩ (0 + i.toNat * 2) (pcC (rdP (List.take 2 (List.drop (0 + j.toNat * 2) cs))))) 347 (1, 1)) ∧
            B [.slice (some ⟨0, 0, none⟩) n n, clo, .int .i64 (IntKind.i64.wrap (i + 1)), .int .i64 (IntKind.i64.wrap (j + 1))]
              ⟨2, 2, (0, .cells (putAll ⟨cs⟩ (0 + i.toNat * 2) (pcC (rdP (List.take 2 (List.drop (0 + j.toNat * 2) cs))))) 347 (1, 1)) :: yH w⟩
          else False else False
        else NoNames (.cells ⟨cs⟩ 347 (1, 1)) ∧ B [.slice (some ⟨0, 0, none⟩) n n, clo, .int .i64 i, .int .i64 (IntKind.i64.wrap (j + 1))] (dfH cs w)
      else False else False else NoNames (.cells ⟨cs⟩ 347 (1, 1)) ∧ Q (.exit 0) [.slice (some ⟨0, 0, none⟩) n n, .int .i64 i] (dfH cs w) := by kernel_rfl
set_option maxRecDepth 20000 in
theorem df_loop {L : List P2} (hl : L.length ≤ 1000) (w : Int) :
    ∀ (r j i : Nat) (D : List P2), j + r = L.length → i < j → D.length = L.length → D.drop j = L.drop j → D.take i = (L.take j).filter (keep w) →
      ∃ (D' : List P2) (k : Nat), D'.length = L.length ∧ k < L.length ∧ D'.take k = L.filter (keep w) ∧ ∀ K : AExit → List Value → AH → Prop,
        K (.exit 0) [.slice (some ⟨0, 0, none⟩) L.length L.length, .int .i64 (k : Int)] (dfH (D'.flatMap pcC) w) →
        iter 2 Tryz.prog SP [] noHooks 600 42 [0, 1, 5, 6] [0] [0, 5] [0] (oneLoop (codeOf Tryz.f273) 5) (r + 1) [.slice (some ⟨0, 0, none⟩) L.length L.length, clo, .int .i64 (i : Int), .int .i64 (j : Int)] (dfH (D.flatMap pcC) w) K := by
  intro r
  induction r with
  | zero =>
    intro j i D h1 h2 h3 h4 h5
    refine ⟨D, i, h3, by omega, by rw [h5, List.take_of_length_le (by omega)], fun K hK => ?_⟩
    exact (dfr _ _ _ _ _ _ K).mpr (pick_f (by simp; omega) ⟨nnB D _, hK⟩)
  | succ r ih =>
    intro j i D h1 h2 h3 h4 h5
    have hj : j < L.length := by omega
    obtain ⟨t, ht, hget, hdr⟩ := dropT hj
    have hD : D[j]? = some t := by
      have h6 : (D.drop j)[0]? = (L.drop j)[0]? := by rw [h4]
      rw [List.getElem?_drop, List.getElem?_drop] at h6
      rw [← hget]; exact h6
    have h4' : D.drop (j + 1) = L.drop (j + 1) := by
      have : (D.drop j).drop 1 = (L.drop j).drop 1 := by rw [h4]
      rw [List.drop_drop, List.drop_drop] at this
      exact this
    have htk : (L.take (j + 1)).filter (keep w) = (L.take j).filter (keep w) ++ (bif keep w t then [t] else []) := by
      rw [List.take_add_one, hget, List.filter_append]
      cases hk : keep w t <;> simp [hk]
    have e := get2i hD
    have hb : (0 + (j : Int).toNat * 2 + 2).ble (Array.mk (D.flatMap pcC)).size = true := ble2 (by omega)
    cases hk : keep w t with
    | true =>
      have hset : (D.set i t).take (i + 1) = (L.take (j + 1)).filter (keep w) := by
        rw [htk, hk, ← h5, List.take_add_one, List.getElem?_set_self (by omega), List.take_set_of_le (Nat.le_refl _)]
        rfl
      obtain ⟨D', k, q1, q2, q3, q4⟩ := ih (j + 1) (i + 1) (D.set i t) (by omega) (by omega) (by rw [List.length_set, h3]) (by rw [List.drop_set_of_lt (by omega), h4']) hset
      refine ⟨D', k, q1, q2, q3, fun K hK => ?_⟩
      refine (dfr _ _ _ _ _ _ K).mpr (pick_t (decide_eq_true (by omega)) (need_mk (by simp; omega) (need_mk hb ?_)))
      rw [e]
      refine ⟨rfl, ?_⟩
      show bif keep w t then _ else _
      refine pick_t hk (need_mk (by simp; omega) (need_mk (by rw [ble2 (by omega)]; rfl) ?_))
      have e2 : rdP (pcC t) = t := rfl
      rw [e2, put_set t (by omega)]
      refine ⟨nnB _ _, ?_⟩
      rw [wrap1 (by omega), wrap1 (by omega)]
      exact q4 K hK
    | false =>
      obtain ⟨D', k, q1, q2, q3, q4⟩ := ih (j + 1) i D (by omega) (by omega) h3 h4' (by rw [htk, hk, h5]; simp)
      refine ⟨D', k, q1, q2, q3, fun K hK => ?_⟩
      refine (dfr _ _ _ _ _ _ K).mpr (pick_t (decide_eq_true (by omega)) (need_mk (by simp; omega) (need_mk hb ?_)))
      rw [e]
      refine ⟨rfl, ?_⟩
      show bif keep w t then _ else _
      refine pick_f hk ⟨nnB _ _, ?_⟩
      rw [wrap1 (by omega)]
      exact q4 K hK
theorem SP_ok : SP.cfg.OK Tryz.prog := spIx_ok.cfg
def clG (n k : Nat) (cells : List Value) (lw : Nat) (w : Int) (Q : Value → AH → Prop) : Prop :=
  bif decide ((k : Int) ≤ (n : Int)) then bif Nat.beq 0 n then Q (.slice (some ⟨0, 0, none⟩) (k - 0) (n - 0)) ⟨2, lw, (0, .cells ⟨cells⟩ 347 (1, 1)) :: yH w⟩
    else Q (.slice (some ⟨0, 0, none⟩) (k - 0) (n - 0)) ⟨2, lw, (0, .cells ⟨cells⟩ 347 (1, 1)) :: yH w⟩ else False
theorem dff (cs cs2 : List Value) (w : Int) (n k : Nat) (C : List Value → AH → Prop) (Q : Value → AH → Prop) :
    tfn Tryz.prog SP [] (hook1 5 (hookLS 2 42 [0, 1, 5, 6] [0] [0, 5] (fun vals h K => C vals h ∧ K (.exit 0) [.slice (some ⟨0, 0, none⟩) n n, .int .i64 (k : Int)] (dfH cs2 w)))) 600 [] Tryz.f273 [.slice (some ⟨0, 0, none⟩) n n, clo] (dfH cs w) Q =
      bif n.beq n && okC n cs && n.ble 1000 && true then bif ixI w 0 (rdL n cs) == -1 then Q (.slice (some ⟨0, 0, none⟩) n n) (dfH cs w) else
        NoNames (.cells ⟨cs⟩ 347 (1, 1)) ∧ C [.slice (some ⟨0, 0, none⟩) n n, clo, .int .i64 (ixI w 0 (rdL n cs)), .int .i64 (IntKind.i64.wrap (ixI w 0 (rdL n cs) + 1))] (dfH cs w) ∧
        bif decide ((k : Int) ≤ (n : Int)) && decide ((n : Int) ≤ (n : Int)) then
          bif k.beq n then bif (n - k).beq 0 then clG n k cs2 2 w Q else bif (0 + (n - k) * 2).ble (Array.mk cs2).size && true && true && true then clG n k (List.take 0 cs2 ++ zlist zC ((n - k) * 2) ++ List.drop (0 + (n - k) * 2) cs2) 0 w Q else False
          else bif (n - k).beq 0 then clG n k cs2 2 w Q else bif (0 + k * 2 + (n - k) * 2).ble (Array.mk cs2).size && true && true && true then
            clG n k (List.take (0 + k * 2) cs2 ++ zlist zC ((n - k) * 2) ++ List.drop (0 + k * 2 + (n - k) * 2) cs2) 0 w Q else False
        else False
      else False := by kernel_rfl
theorem oneDF : (loopAt (codeOf Tryz.f273) 5).length = 1 := by kernel_rfl
theorem someDF : Tryz.f273.body.isSome = true := by kernel_rfl
theorem widP : width Tryz.prog 347 = 2 := by kernel_rfl
theorem cutP {k c : Nat} {cs : List Value} {F : List P2} {h : AH} (hg : h.get 0 = some (.cells ⟨cs⟩ 347 (1, 1))) (hF : cs.take (k * 2) = F.flatMap pcC) (hk : F.length = k) (hc : k ≤ c) (hl : c * 2 ≤ cs.length) :
    ∃ v2 g2, Weak 2 Tryz.prog #[.slice (some ⟨0, 0, none⟩) k c] h #[v2] g2 ∧ v2 = .slice (some ⟨0, 0, none⟩) F.length F.length ∧ g2 = h.set 0 (.cells ⟨F.flatMap pcC⟩ 347 (1, 1)) := by
  subst hk
  have := Weak.cut (p := 2) (P := Tryz.prog) (τ := #[.slice (some ⟨0, 0, none⟩) F.length c]) (τ2 := #[.slice (some ⟨0, 0, none⟩) F.length F.length]) (n := F.length) (c := c) (k := 2) hg widP hl hc rfl (fun i => by
    cases i with
    | zero => exact .inr ⟨rfl, rfl⟩
    | succ i => exact .inl (by simp))
  rw [hF] at this
  exact ⟨_, _, this, rfl, rfl⟩
set_option maxRecDepth 20000 in
theorem df_fn {L : List P2} (hl : L.length ≤ 1000) (w : Int) : FnOK 2 Tryz.prog 273 ⟨[.slice (some ⟨0, 0, none⟩) L.length L.length, clo]⟩ (dfH (L.flatMap pcC) w)
    (fun v g => v = .slice (some ⟨0, 0, none⟩) (L.filter (keep w)).length (L.filter (keep w)).length ∧ g = ⟨2, 0, (0, .cells ⟨(L.filter (keep w)).flatMap pcC⟩ 347 (1, 1)) :: yH w⟩) := by
  refine FnOK.weak1 ?_
  have hlen := pcC_len L
  rcases ixI_spec w L 0 with ⟨h1, h2⟩ | ⟨i, h1, h2, h3⟩
  · have h1 : ixI w 0 L = -1 := h1
    have hsp : LSpec 2 Tryz.prog 42 (oneLoop (codeOf Tryz.f273) 5) (hookLS 2 42 [0, 1, 5, 6] [0] [0, 5] (fun vals h K => False ∧ K (.exit 0) [.slice (some ⟨0, 0, none⟩) L.length L.length, .int .i64 ((0 : Nat) : Int)] (dfH [] w))) :=
      hook_ok (G := []) (L := noHooks) (f := 600) (sameX := [0]) SP_ok mixed (by decide) (loops_none _ _ _ _) fun vals h K q => q.1.elim
    refine FnOK.ttree SP_ok mixed Tryz.func273 someDF (loops_one oneDF hsp) (dff (L.flatMap pcC) [] w L.length 0 _ _) ?_
    refine need_mk (by rw [Nat.beq_refl, okC_iff.2 ⟨L, rfl, rfl⟩, Nat.ble_eq_true_of_le hl]; rfl) (pick_t (by rw [rdL_flat, h1]; rfl) ?_)
    obtain ⟨v2, g2, hW, rfl, rfl⟩ := cutP (h := dfH (L.flatMap pcC) w) (k := L.length) (c := L.length) (F := L) rfl (List.take_of_length_le (by omega)) rfl (Nat.le_refl _) (by omega)
    exact ⟨_, _, hW, by rw [h2], by rw [h2]; rfl⟩
  · rw [Nat.zero_add] at h1
    have h1 : ixI w 0 L = (i : Int) := h1
    obtain ⟨D, k, q1, q2, q3, q4⟩ := df_loop hl w (L.length - (i + 1)) (i + 1) i L (by omega) (by omega) rfl rfl h3
    have hsp : LSpec 2 Tryz.prog 42 (oneLoop (codeOf Tryz.f273) 5) (hookLS 2 42 [0, 1, 5, 6] [0] [0, 5] (fun vals h K => (vals = [.slice (some ⟨0, 0, none⟩) L.length L.length, clo, .int .i64 (i : Int), .int .i64 ((i + 1 : Nat) : Int)] ∧ h = dfH (L.flatMap pcC) w) ∧
        K (.exit 0) [.slice (some ⟨0, 0, none⟩) L.length L.length, .int .i64 (k : Int)] (dfH (D.flatMap pcC) w))) := by
      refine hook_ok (G := []) (L := noHooks) (f := 600) (sameX := [0]) SP_ok mixed (by decide) (loops_none _ _ _ _) ?_
      rintro vals h K ⟨⟨rfl, rfl⟩, hK⟩
      exact ⟨_, q4 K hK⟩
    refine FnOK.ttree SP_ok mixed Tryz.func273 someDF (loops_one oneDF hsp) (dff (L.flatMap pcC) (D.flatMap pcC) w L.length k _ _) ?_
    have n1 : (ixI w 0 L == -1) = false := by rw [h1]; exact beq_eq_false_iff_ne.2 (by omega)
    have n2 : k.beq L.length = false := by cases q : k.beq L.length with | false => rfl | true => exact absurd (Nat.eq_of_beq_eq_true q) (by omega)
    have n3 : (L.length - k).beq 0 = false := by cases q : (L.length - k).beq 0 with | false => rfl | true => exact absurd (Nat.eq_of_beq_eq_true q) (by omega)
    have hsz := size_flat D
    have hD := pcC_len D
    refine need_mk (by rw [Nat.beq_refl, okC_iff.2 ⟨L, rfl, rfl⟩, Nat.ble_eq_true_of_le hl]; rfl) (pick_f (by rw [rdL_flat, n1]) ⟨nnB L _, ⟨by rw [rdL_flat, h1, wrap1 (by omega)], rfl⟩, need_mk (by simp; omega) (pick_f n2 (pick_f n3 (need_mk ?_ (need_mk (decide_eq_true (by omega)) ?_))))⟩)
    · rw [hsz, q1, Nat.ble_eq_true_of_le (by omega)]; rfl
    · have hk : (D.take k).length = k := by rw [List.length_take]; omega
      have hflat : List.take (0 + k * 2) (D.flatMap pcC) = (D.take k).flatMap pcC := by
        have e1 : D.flatMap pcC = (D.take k).flatMap pcC ++ (D.drop k).flatMap pcC := by rw [← List.flatMap_append, List.take_append_drop]
        have e2 := pcC_len (D.take k)
        rw [hk] at e2
        rw [e1, Nat.zero_add, ← e2, List.take_left]
      have hlen3 : (List.take (0 + k * 2) (D.flatMap pcC) ++ zlist zC ((L.length - k) * 2) ++ List.drop (0 + k * 2 + (L.length - k) * 2) (D.flatMap pcC)).length = L.length * 2 := by
        have z : (zlist zC ((L.length - k) * 2)).length = (L.length - k) * 2 := by simp [zlist]
        rw [List.length_append, List.length_append, List.length_take, List.length_drop, z, hD, q1]
        omega
      have fin : ∃ v2 g2, Weak 2 Tryz.prog #[.slice (some ⟨0, 0, none⟩) (k - 0) (L.length - 0)] ⟨2, 0, (0, .cells ⟨List.take (0 + k * 2) (D.flatMap pcC) ++ zlist zC ((L.length - k) * 2) ++ List.drop (0 + k * 2 + (L.length - k) * 2) (D.flatMap pcC)⟩ 347 (1, 1)) :: yH w⟩ #[v2] g2 ∧
          v2 = .slice (some ⟨0, 0, none⟩) (L.filter (keep w)).length (L.filter (keep w)).length ∧ g2 = ⟨2, 0, (0, .cells ⟨(L.filter (keep w)).flatMap pcC⟩ 347 (1, 1)) :: yH w⟩ := by
        obtain ⟨v2, g2, hW, e1, e2⟩ := cutP (h := ⟨2, 0, (0, .cells ⟨List.take (0 + k * 2) (D.flatMap pcC) ++ zlist zC ((L.length - k) * 2) ++ List.drop (0 + k * 2 + (L.length - k) * 2) (D.flatMap pcC)⟩ 347 (1, 1)) :: yH w⟩) (k := k - 0) (c := L.length - 0) (F := L.filter (keep w)) rfl
          (by rw [Nat.sub_zero, hflat, q3, List.append_assoc, List.take_left' (by rw [← q3, pcC_len, hk])]) (by rw [← q3, hk]; rfl) (by omega) (by rw [hlen3]; omega)
        exact ⟨v2, g2, hW, e1, e2⟩
      cases Nat.beq 0 L.length <;> exact fin
end Go.Proofs.YtbigicdojndnjaaGreatDoor
