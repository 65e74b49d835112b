/-
  The health of instances: 'IndexFunc' and 'DeleteFunc' with a closure that asks for a key.
-/
import Derived.Test.YtbeodpcdjlphkaaGreatDoorHbB
namespace Go.Proofs.YtbeodpcdjlphkaaGreatDoor
open Go.Ev Go.RowKit HealthLaw

theorem ixI_cons (key : ByteArray) (i : Int) (t : T3) (l : List T3) : ixI key i (t :: l) = bif keep key t then ixI key (i + 1) l else i := rfl
theorem ixI_spec (key : ByteArray) : ∀ (L : List T3) (i : Nat), (ixI key (i : Int) L = -1 ∧ L.filter (keep key) = L) ∨ ∃ k : Nat, ixI key (i : Int) L = ((i + k : Nat) : Int) ∧ k < L.length ∧ L.take k = (L.take (k + 1)).filter (keep key)
  | [], i => .inl ⟨rfl, rfl⟩
  | t :: l, i => by
    rw [ixI_cons]
    cases hk : keep key t with
    | false =>
      exact .inr ⟨0, by simp, by simp, by simp [hk]⟩
    | true =>
      have e : ((i : Int) + 1) = ((i + 1 : Nat) : Int) := by omega
      rw [e, cond_true]
      rcases ixI_spec key l (i + 1) with ⟨h1, h2⟩ | ⟨k, h1, h2, h3⟩
      · exact .inl ⟨h1, by rw [List.filter_cons_of_pos hk, h2]⟩
      · refine .inr ⟨k + 1, by rw [h1]; congr 1; omega, by simpa using h2, ?_⟩
        rw [List.take_succ_cons, List.take_succ_cons, List.filter_cons_of_pos hk, ← h3]
theorem size_flat (L : List T3) : (Array.mk (L.flatMap tC)).size = L.length * 3 := tC_len L
theorem ble3 {L : List T3} {i : Nat} (hi : i < L.length) : (0 + (i : Int).toNat * 3 + 3).ble (Array.mk (L.flatMap tC)).size = true := by
  rw [size_flat, Nat.ble_eq]; omega
theorem get3i {L : List T3} {j : Nat} {t : T3} (h : L[j]? = some t) : List.take 3 (List.drop (0 + (j : Int).toNat * 3) (L.flatMap tC)) = tC t := by
  rw [Nat.zero_add]; exact get3 h
theorem set_flat (t : T3) : ∀ (L : List T3) (i : Nat), i < L.length → (L.flatMap tC).take (i * 3) ++ tC t ++ (L.flatMap tC).drop (i * 3 + 3) = (L.set i t).flatMap tC := by
  intro L
  induction L with
  | nil => intro i h; cases h
  | cons u l ih =>
    intro i h
    cases i with
    | zero => rfl
    | succ i =>
      have := ih i (by simpa using h)
      rw [List.set_cons_succ, List.flatMap_cons, List.flatMap_cons, ← this, Nat.succ_mul]
      have h3 : (tC u).length = 3 := rfl
      rw [List.take_append, List.drop_append, h3, List.take_of_length_le (by rw [h3]; omega), List.drop_of_length_le (by rw [h3]; omega), Nat.add_sub_cancel, show i * 3 + 3 + 3 - 3 = i * 3 + 3 by omega]
      simp
theorem put_set {L : List T3} {i : Nat} (t : T3) (hi : i < L.length) : putAll ⟨L.flatMap tC⟩ (0 + (i : Int).toNat * 3) (tC t) = ⟨(L.set i t).flatMap tC⟩ := by
  have hl := tC_len L
  rw [putAll_eq _ _ _ (by show 0 + (i : Int).toNat * 3 + 3 ≤ (L.flatMap tC).length; rw [hl]; omega)]
  show (⟨(L.flatMap tC).take (0 + i * 3) ++ tC t ++ (L.flatMap tC).drop (0 + i * 3 + 3)⟩ : Array Value) = _
  rw [Nat.zero_add, set_flat t L i hi]
theorem nnB (L : List T3) (t : TypeId) : NoNames (.cells ⟨L.flatMap tC⟩ t (1, 1)) := nnF L t (1, 1)
def zC : Array Value := #[.int .i64 0, .string ⟨#[]⟩, .bool false]
theorem zl_p1 (n : Nat) : ∀ v ∈ zlist zC n, p1 v = true := by
  intro v hv
  simp only [zlist, List.mem_map] at hv
  obtain ⟨i, _, rfl⟩ := hv
  have hi : i % zC.size < zC.size := Nat.mod_lt _ (by decide)
  rw [Array.getElem?_eq_getElem hi]
  have key : ∀ (k : Nat) (h : k < zC.size), p1 (zC[k]) = true := by
    intro k h
    have h : k < 3 := h
    match k, h with
    | 0, _ => rfl
    | 1, _ => rfl
    | 2, _ => rfl
  exact key _ hi
/-- A part of a row, frozen. -/
theorem freezeR {p : Nat} {P : Program} {h : AH} {b : Nat} {t : TypeId} {fr : Nat × Nat} {cap : Nat} (l : List T3) (rest : List Value) (hr : ∀ v ∈ rest, p1 v = true) (hcap : l.length ≤ cap) (hb : h.get b = some (.cells ⟨l.flatMap tC ++ rest⟩ t fr)) :
    Weak p P #[.slice (some ⟨b, 0, none⟩) l.length cap] h #[fz ⟨l.map tV⟩] (h.del b) := by
  have hget : ∀ (l : List T3) (i j : Nat) x v, (l.map tV)[i]? = some x → x.cells[j]? = some v → (l.flatMap tC)[i * 3 + j]? = some v := by
    intro l
    induction l with
    | nil => intro i j x v h; cases h
    | cons u l ih =>
      intro i j x v hx hv
      cases i with
      | zero =>
        simp only [List.map_cons, List.getElem?_cons_zero, Option.some.injEq] at hx
        subst hx
        have hv : (tC u)[j]? = some v := by simpa [tV, Value.cells] using hv
        have hj := (List.getElem?_eq_some_iff.1 hv).1
        rw [List.flatMap_cons, Nat.zero_mul, Nat.zero_add, List.getElem?_append_left hj]
        exact hv
      | succ i =>
        have := ih i j x v (by simpa using hx) hv
        have h3 : (tC u).length = 3 := rfl
        rw [List.flatMap_cons, List.getElem?_append_right (by rw [h3, Nat.succ_mul]; omega), h3, ← this]
        congr 1
        rw [Nat.succ_mul]; omega
  refine Weak.freeze (n := l.length) (cap := cap) b 3 ⟨l.map tV⟩ hb ?_ (by simp) hcap ?_ ?_ ?_ rfl ?_
  · intro v hv
    rcases List.mem_append.1 (show v ∈ l.flatMap tC ++ rest by simpa using hv) with q | q
    · exact p1_tC v q
    · exact hr v q
  · have := tC_len l
    show l.length * 3 ≤ (l.flatMap tC ++ rest).length
    rw [List.length_append]
    omega
  · intro i x hx
    have hx : (l.map tV)[i]? = some x := by simpa using hx
    rw [List.getElem?_map] at hx
    obtain ⟨q, _, rfl⟩ := Option.map_eq_some_iff.1 hx
    rfl
  · intro i j x v hx hv
    have h1 := hget l i j x v (by simpa using hx) hv
    have h2 := (List.getElem?_eq_some_iff.1 h1).1
    have e : (Array.mk (l.flatMap tC ++ rest))[i * 3 + j]? = (l.flatMap tC ++ rest)[i * 3 + j]? := by simp
    rw [e, List.getElem?_append_left h2]
    exact h1
  · intro i
    cases i with
    | zero => exact .inr ⟨rfl, rfl⟩
    | succ i => exact .inl (by simp)
/-- Of two blocks, the first goes. -/
def yH (key : ByteArray) (w : Int) : List (Nat × Obj) := [(1, .cells ⟨[.string key, .int .i64 w]⟩ 40 (0, 0))]
theorem ren_two {b y : Nat} (h : b ≠ y) : renOk [(b, 0), (y, 1)] 2 = true := by
  have h1 : Nat.beq b y = false := by cases q : Nat.beq b y with | false => rfl | true => exact (h (Nat.eq_of_beq_eq_true q)).elim
  have h2 : Nat.beq 0 1 = false := rfl
  simp [renOk, renB, invB, eqO, h1, h2]

/-! P -/
theorem ixfP (cs : List Value) (key : ByteArray) (w r : Int) (n : Nat) (C : List Value → AH → Prop) (Q : Value → AH → Prop) : (tfn Tryz.prog SP0 [] (hook1 2 (hookLS 2 19 [0, 1, 7, 8] [0] [4] (fun vals h K => C vals h ∧ bif decide (r = -1) then K (.exit 0) [anyV] (dfH cs 43 key w) else K .ret [.int .i64 r] (dfH cs 43 key w)))) 600 [] Tryz.f35 [.slice (some ⟨0, 0, none⟩) n n, clo 13] (dfH cs 43 key w) Q) = (NoNames (Obj.cells { toList := cs } 43 (1, 1)) ∧ C [Value.slice (some { block := 0, off := 0 }) n n, Value.func (Fn.func 13) { toList := [] } { toList := [Value.pointer (some { block := 1, off := 0 })] }, Value.int IntKind.i64 ↑n, Value.int IntKind.i64 0] { next := 2, low := 2, blocks := [(0, Obj.cells { toList := cs } 43 (1, 1)), (1, Obj.cells { toList := [Value.string key, Value.int IntKind.i64 w] } 40 (0, 0))] } ∧ bif decide (r = -1) then Q (Value.int IntKind.i64 (-1)) { next := 2, low := 2, blocks := [(0, Obj.cells { toList := cs } 43 (1, 1)), (1, Obj.cells { toList := [Value.string key, Value.int IntKind.i64 w] } 40 (0, 0))] } else Q (Value.int IntKind.i64 r) { next := 2, low := 2, blocks := [(0, Obj.cells { toList := cs } 43 (1, 1)), (1, Obj.cells { toList := [Value.string key, Value.int IntKind.i64 w] } 40 (0, 0))] }) := by kernel_rfl

theorem ixrP (cs : List Value) (key : ByteArray) (w : Int) (n : Nat) (m i : Int) (B : List Value → AH → Prop) (Q : AExit → List Value → AH → Prop) :
    once 2 Tryz.prog SP0 [] noHooks 600 19 [0, 1, 7, 8] [0] [4] [0] (oneLoop (codeOf Tryz.f35) 2) [.slice (some ⟨0, 0, none⟩) n n, clo 13, .int .i64 m, .int .i64 i] (dfH cs 43 key w) B Q =
      bif decide (i < m) then bif decide (0 ≤ i) && decide (i < (n : Int)) then bif (0 + i.toNat * 3 + 3).ble (Array.mk cs).size then
        Value.agg ⟨List.take 3 (List.drop (0 + i.toNat * 3) cs)⟩ = tV (rdT (List.take 3 (List.drop (0 + i.toNat * 3) cs))) ∧
        bif !keep key (rdT (List.take 3 (List.drop (0 + i.toNat * 3) cs))) then NoNames (.cells ⟨cs⟩ 43 (1, 1)) ∧ Q .ret [.int .i64 i] (dfH cs 43 key w) else
          NoNames (.cells ⟨cs⟩ 43 (1, 1)) ∧ B [.slice (some ⟨0, 0, none⟩) n n, clo 13, .int .i64 m, .int .i64 (IntKind.i64.wrap (i + 1))] (dfH cs 43 key w)
      else False else False else NoNames (.cells ⟨cs⟩ 43 (1, 1)) ∧ Q (.exit 0) [anyV] (dfH cs 43 key w) := by kernel_rfl
def ixEnd (K : AExit → List Value → AH → Prop) (H : AH) (r : Int) : Prop := bif decide (r = -1) then K (.exit 0) [anyV] H else K .ret [.int .i64 r] H
theorem ix_loopP {L : List T3} (hl : L.length ≤ 1000) (key : ByteArray) (w : Int) (K : AExit → List Value → AH → Prop) :
    ∀ (r i : Nat), i + r = L.length → ixEnd K (dfH (L.flatMap tC) 43 key w) (ixI key (i : Int) (L.drop i)) →
      iter 2 Tryz.prog SP0 [] noHooks 600 19 [0, 1, 7, 8] [0] [4] [0] (oneLoop (codeOf Tryz.f35) 2) (r + 1) [.slice (some ⟨0, 0, none⟩) L.length L.length, clo 13, .int .i64 (L.length : Int), .int .i64 (i : Int)] (dfH (L.flatMap tC) 43 key w) K := by
  intro r
  induction r with
  | zero =>
    intro i h1 h2
    rw [List.drop_eq_nil_of_le (by omega)] at h2
    exact (ixrP _ _ _ _ _ _ _ K).mpr (pick_f (by simp; omega) ⟨nnB L _, h2⟩)
  | succ r ih =>
    intro i h1 h2
    have hi : i < L.length := by omega
    obtain ⟨t, ht, hget, hdr⟩ := dropT hi
    have e := get3i hget
    rw [hdr, ixI_cons] at h2
    refine (ixrP _ _ _ _ _ _ _ K).mpr (pick_t (decide_eq_true (by omega)) (need_mk (by simp; omega) (need_mk (ble3 hi) ?_)))
    rw [e]
    refine ⟨rfl, ?_⟩
    show bif !keep key t then _ else _
    cases hk : keep key t with
    | false =>
      rw [hk, cond_false] at h2
      have h2 : bif decide ((i : Int) = -1) then _ else _ := h2
      rw [decide_eq_false (by omega)] at h2
      exact pick_t rfl ⟨nnB L _, h2⟩
    | true =>
      rw [hk, cond_true] at h2
      refine pick_f rfl ⟨nnB L _, ?_⟩
      rw [wrap1 (by omega)]
      refine ih (i + 1) (by omega) ?_
      have e : ((i : Int) + 1) = ((i + 1 : Nat) : Int) := by omega
      rw [← e]; exact h2
theorem oneIXP : (loopAt (codeOf Tryz.f35) 2).length = 1 := by kernel_rfl
theorem someIXP : Tryz.f35.body.isSome = true := by kernel_rfl
theorem ix_fnP {L : List T3} (hl : L.length ≤ 1000) (key : ByteArray) (w : Int) : FnOK 2 Tryz.prog 35 ⟨[.slice (some ⟨0, 0, none⟩) L.length L.length, clo 13]⟩ (dfH (L.flatMap tC) 43 key w)
    (fun v g => v = .int .i64 (ixI key 0 L) ∧ g = dfH (L.flatMap tC) 43 key w) := by
  have hsp : LSpec 2 Tryz.prog 19 (oneLoop (codeOf Tryz.f35) 2) (hookLS 2 19 [0, 1, 7, 8] [0] [4] (fun vals h K => (vals = [.slice (some ⟨0, 0, none⟩) L.length L.length, clo 13, .int .i64 (L.length : Int), .int .i64 0] ∧ h = dfH (L.flatMap tC) 43 key w) ∧
      bif decide (ixI key 0 L = -1) then K (.exit 0) [anyV] (dfH (L.flatMap tC) 43 key w) else K .ret [.int .i64 (ixI key 0 L)] (dfH (L.flatMap tC) 43 key w))) := by
    refine hook_ok (G := []) (L := noHooks) (f := 600) (sameX := [0]) SP0_ok mixed (by decide) (loops_none _ _ _ _) ?_
    rintro vals h K ⟨⟨rfl, rfl⟩, hK⟩
    exact ⟨_, ix_loopP hl key w K L.length 0 (by omega) hK⟩
  refine FnOK.ttree SP0_ok mixed Tryz.func35 someIXP (loops_one oneIXP hsp) (ixfP (L.flatMap tC) key w (ixI key 0 L) L.length _ (fun v g => v = .int .i64 (ixI key 0 L) ∧ g = dfH (L.flatMap tC) 43 key w)) ?_
  refine ⟨nnB L _, ⟨rfl, rfl⟩, ?_⟩
  by_cases q : ixI key 0 L = -1
  · exact pick_t (decide_eq_true q) ⟨by rw [q], rfl⟩
  · exact pick_f (decide_eq_false q) ⟨rfl, rfl⟩
theorem spIxP_ok : SpOK (spIx 35 13 43) := by
  intro f args h v h' hs
  unfold spIx at hs
  obtain ⟨hf, hs2⟩ := cond_some hs
  clear hs
  have := Nat.eq_of_beq_eq_true hf
  subst this
  split at hs2
  · split at hs2
    · rename_i b n m c y _ _ cs t1 fr key w t2 fr2 hg1 hg2
      injection hs2 with hs
      injection hs with hb hs
      injection hs with hv hh
      subst hv hh
      simp only [Bool.and_eq_true, Bool.not_eq_true'] at hb
      obtain ⟨⟨⟨⟨⟨⟨⟨⟨⟨⟨b1, b2⟩, b3⟩, b4⟩, b5⟩, b6⟩, b7⟩, b8⟩, b9⟩, b10⟩, b11⟩ := hb
      obtain ⟨f1, f2⟩ := fr
      obtain ⟨f3, f4⟩ := fr2
      simp only at b3 b4 b5 b6
      have b1 := Nat.eq_of_beq_eq_true b1
      have b2 := Nat.eq_of_beq_eq_true b2
      have b3 := Nat.eq_of_beq_eq_true b3
      have b4 := Nat.eq_of_beq_eq_true b4
      have b5 := Nat.eq_of_beq_eq_true b5
      have b6 := Nat.eq_of_beq_eq_true b6
      have b7 := Nat.eq_of_beq_eq_true b7
      have b8 := Nat.eq_of_beq_eq_true b8
      obtain ⟨L, hL, hcs⟩ := okC_iff.1 b9
      have b10 := Nat.le_of_ble_eq_true b10
      subst b1 b2 b3 b4 b5 b6 b7 b8 hL hcs
      have hne : b ≠ y := fun q => by rw [q, Nat.beq_refl] at b11; cases b11
      have hbl : ∀ i o, Ev.look i (dfH (L.flatMap tC) 43 key w).blocks = some o → (i = 0 ∧ o = .cells ⟨L.flatMap tC⟩ 43 (1, 1)) ∨ (i = 1 ∧ o = .cells ⟨[.string key, .int .i64 w]⟩ 40 (0, 0)) := by
        intro i o ho
        match i, ho with
        | 0, ho => cases ho; exact .inl ⟨rfl, rfl⟩
        | 1, ho => cases ho; exact .inr ⟨rfl, rfl⟩
        | i + 2, ho => cases ho
      refine ⟨?_, Nat.le_refl _⟩
      rw [rdL_flat]
      refine FnOK.reads (r := [(b, 0), (y, 1)]) (bl := (dfH (L.flatMap tC) 43 key w).blocks) (small := [.slice (some ⟨0, 0, none⟩) L.length L.length, clo 13]) (ren_two hne) ?_ ?_ ?_ ?_ rfl
      · simp [ren2s, ren2, ren1, renB, renL, clo, b11]
      · intro i o ho
        rcases hbl i o ho with ⟨rfl, rfl⟩ | ⟨rfl, rfl⟩
        · exact ⟨b, by simp, hg1⟩
        · exact ⟨y, by simp, hg2⟩
      · intro i o ho
        rcases hbl i o ho with ⟨rfl, rfl⟩ | ⟨rfl, rfl⟩
        · exact ⟨_, _, _, rfl, nnB L 43⟩
        · refine ⟨_, _, _, rfl, fun x hx => ?_⟩
          have hx : x ∈ [Value.string key, .int .i64 w] := hx
          simp only [List.mem_cons, List.not_mem_nil, or_false] at hx
          rcases hx with rfl | rfl <;> rfl
      · refine (ix_fnP b10 key w).mono ?_
        rintro v g ⟨rfl, rfl⟩
        exact ⟨rfl, fun i o ho => ho⟩
    · cases hs2
  · cases hs2
theorem dfrP (cs : List Value) (key : ByteArray) (w : Int) (n : Nat) (i j : Int) (B : List Value → AH → Prop) (Q : AExit → List Value → AH → Prop) :
    once 2 Tryz.prog SPP [] noHooks 600 42 [0, 1, 5, 6] [0] [0, 5] [0] (oneLoop (codeOf Tryz.f11) 5) [.slice (some ⟨0, 0, none⟩) n n, clo 13, .int .i64 i, .int .i64 j] (dfH cs 43 key w) B Q =
      bif decide (j < (n : Int)) then bif decide (0 ≤ j) && decide (j < (n : Int)) then bif (0 + j.toNat * 3 + 3).ble (Array.mk cs).size then
        Value.agg ⟨List.take 3 (List.drop (0 + j.toNat * 3) cs)⟩ = tV (rdT (List.take 3 (List.drop (0 + j.toNat * 3) cs))) ∧
        bif !!keep key (rdT (List.take 3 (List.drop (0 + j.toNat * 3) cs))) then
          bif decide (0 ≤ i) && decide (i < (n : Int)) then bif (0 + i.toNat * 3 + 3).ble (Array.mk cs).size && true && true then
            NoNames (.cells (putAll ⟨cs⟩ (0 + i.toNat * 3) (tC (rdT (List.take 3 (List.drop (0 + j.toNat * 3) cs))))) 43 (1, 1)) ∧
            B [.slice (some ⟨0, 0, none⟩) n n, clo 13, .int .i64 (IntKind.i64.wrap (i + 1)), .int .i64 (IntKind.i64.wrap (j + 1))]
              ⟨2, 2, (0, .cells (putAll ⟨cs⟩ (0 + i.toNat * 3) (tC (rdT (List.take 3 (List.drop (0 + j.toNat * 3) cs))))) 43 (1, 1)) :: yH key w⟩
          else False else False
        else NoNames (.cells ⟨cs⟩ 43 (1, 1)) ∧ B [.slice (some ⟨0, 0, none⟩) n n, clo 13, .int .i64 i, .int .i64 (IntKind.i64.wrap (j + 1))] (dfH cs 43 key w)
      else False else False else NoNames (.cells ⟨cs⟩ 43 (1, 1)) ∧ Q (.exit 0) [.slice (some ⟨0, 0, none⟩) n n, .int .i64 i] (dfH cs 43 key w) := by kernel_rfl
set_option maxRecDepth 20000 in
theorem df_loopP {L : List T3} (hl : L.length ≤ 1000) (key : ByteArray) (w : Int) :
    ∀ (r j i : Nat) (D : List T3), j + r = L.length → i < j → D.length = L.length → D.drop j = L.drop j → D.take i = (L.take j).filter (keep key) →
      ∃ (D' : List T3) (k : Nat), D'.length = L.length ∧ k < L.length ∧ D'.take k = L.filter (keep key) ∧ ∀ K : AExit → List Value → AH → Prop,
        K (.exit 0) [.slice (some ⟨0, 0, none⟩) L.length L.length, .int .i64 (k : Int)] (dfH (D'.flatMap tC) 43 key w) →
        iter 2 Tryz.prog SPP [] noHooks 600 42 [0, 1, 5, 6] [0] [0, 5] [0] (oneLoop (codeOf Tryz.f11) 5) (r + 1) [.slice (some ⟨0, 0, none⟩) L.length L.length, clo 13, .int .i64 (i : Int), .int .i64 (j : Int)] (dfH (D.flatMap tC) 43 key w) K := by
  intro r
  induction r with
  | zero =>
    intro j i D h1 h2 h3 h4 h5
    refine ⟨D, i, h3, by omega, by rw [h5, List.take_of_length_le (by omega)], fun K hK => ?_⟩
    exact (dfrP _ _ _ _ _ _ _ K).mpr (pick_f (by simp; omega) ⟨nnB D _, hK⟩)
  | succ r ih =>
    intro j i D h1 h2 h3 h4 h5
    have hj : j < L.length := by omega
    obtain ⟨t, ht, hget, hdr⟩ := dropT hj
    have hD : D[j]? = some t := by
      have h6 : (D.drop j)[0]? = (L.drop j)[0]? := by rw [h4]
      rw [List.getElem?_drop, List.getElem?_drop] at h6
      rw [← hget]; exact h6
    have h4' : D.drop (j + 1) = L.drop (j + 1) := by
      have : (D.drop j).drop 1 = (L.drop j).drop 1 := by rw [h4]
      rw [List.drop_drop, List.drop_drop] at this
      exact this
    have htk : (L.take (j + 1)).filter (keep key) = (L.take j).filter (keep key) ++ (bif keep key t then [t] else []) := by
      rw [List.take_add_one, hget, List.filter_append]
      cases hk : keep key t <;> simp [hk]
    have e := get3i hD
    have hb : (0 + (j : Int).toNat * 3 + 3).ble (Array.mk (D.flatMap tC)).size = true := ble3 (by omega)
    cases hk : keep key t with
    | true =>
      have hset : (D.set i t).take (i + 1) = (L.take (j + 1)).filter (keep key) := by
        rw [htk, hk, ← h5, List.take_add_one, List.getElem?_set_self (by omega), List.take_set_of_le (Nat.le_refl _)]
        rfl
      obtain ⟨D', k, q1, q2, q3, q4⟩ := ih (j + 1) (i + 1) (D.set i t) (by omega) (by omega) (by rw [List.length_set, h3]) (by rw [List.drop_set_of_lt (by omega), h4']) hset
      refine ⟨D', k, q1, q2, q3, fun K hK => ?_⟩
      refine (dfrP _ _ _ _ _ _ _ K).mpr (pick_t (decide_eq_true (by omega)) (need_mk (by simp; omega) (need_mk hb ?_)))
      rw [e]
      refine ⟨rfl, ?_⟩
      show bif !!keep key t then _ else _
      refine pick_t (by rw [hk]; rfl) (need_mk (by simp; omega) (need_mk (by rw [ble3 (by omega)]; rfl) ?_))
      have e2 : rdT (tC t) = t := rfl
      rw [e2, put_set t (by omega)]
      refine ⟨nnB _ _, ?_⟩
      rw [wrap1 (by omega), wrap1 (by omega)]
      exact q4 K hK
    | false =>
      obtain ⟨D', k, q1, q2, q3, q4⟩ := ih (j + 1) i D (by omega) (by omega) h3 h4' (by rw [htk, hk, h5]; simp)
      refine ⟨D', k, q1, q2, q3, fun K hK => ?_⟩
      refine (dfrP _ _ _ _ _ _ _ K).mpr (pick_t (decide_eq_true (by omega)) (need_mk (by simp; omega) (need_mk hb ?_)))
      rw [e]
      refine ⟨rfl, ?_⟩
      show bif !!keep key t then _ else _
      refine pick_f (by rw [hk]; rfl) ⟨nnB _ _, ?_⟩
      rw [wrap1 (by omega)]
      exact q4 K hK
theorem SPP_ok : SPP.cfg.OK Tryz.prog := spIxP_ok.cfg
def clGP (n k : Nat) (cells : List Value) (lw : Nat) (key : ByteArray) (w : Int) (Q : Value → AH → Prop) : Prop :=
  bif decide ((k : Int) ≤ (n : Int)) then bif Nat.beq 0 n then Q (.slice (some ⟨0, 0, none⟩) (k - 0) (n - 0)) ⟨2, lw, (0, .cells ⟨cells⟩ 43 (1, 1)) :: yH key w⟩
    else Q (.slice (some ⟨0, 0, none⟩) (k - 0) (n - 0)) ⟨2, lw, (0, .cells ⟨cells⟩ 43 (1, 1)) :: yH key w⟩ else False
theorem dffP (cs cs2 : List Value) (key : ByteArray) (w : Int) (n k : Nat) (C : List Value → AH → Prop) (Q : Value → AH → Prop) :
    tfn Tryz.prog SPP [] (hook1 5 (hookLS 2 42 [0, 1, 5, 6] [0] [0, 5] (fun vals h K => C vals h ∧ K (.exit 0) [.slice (some ⟨0, 0, none⟩) n n, .int .i64 (k : Int)] (dfH cs2 43 key w)))) 600 [] Tryz.f11 [.slice (some ⟨0, 0, none⟩) n n, clo 13] (dfH cs 43 key w) Q =
      bif n.beq n && okC n cs && n.ble 1000 && true then bif ixI key 0 (rdL n cs) == -1 then Q (.slice (some ⟨0, 0, none⟩) n n) (dfH cs 43 key w) else
        NoNames (.cells ⟨cs⟩ 43 (1, 1)) ∧ C [.slice (some ⟨0, 0, none⟩) n n, clo 13, .int .i64 (ixI key 0 (rdL n cs)), .int .i64 (IntKind.i64.wrap (ixI key 0 (rdL n cs) + 1))] (dfH cs 43 key w) ∧
        bif decide ((k : Int) ≤ (n : Int)) && decide ((n : Int) ≤ (n : Int)) then
          bif k.beq n then bif (n - k).beq 0 then clGP n k cs2 2 key w Q else bif (0 + (n - k) * 3).ble (Array.mk cs2).size && true && true && true then clGP n k (List.take 0 cs2 ++ zlist zC ((n - k) * 3) ++ List.drop (0 + (n - k) * 3) cs2) 0 key w Q else False
          else bif (n - k).beq 0 then clGP n k cs2 2 key w Q else bif (0 + k * 3 + (n - k) * 3).ble (Array.mk cs2).size && true && true && true then
            clGP n k (List.take (0 + k * 3) cs2 ++ zlist zC ((n - k) * 3) ++ List.drop (0 + k * 3 + (n - k) * 3) cs2) 0 key w Q else False
        else False
      else False := by kernel_rfl
theorem oneDFP : (loopAt (codeOf Tryz.f11) 5).length = 1 := by kernel_rfl
theorem someDFP : Tryz.f11.body.isSome = true := by kernel_rfl
set_option maxRecDepth 20000 in
theorem df_fnP {L : List T3} (hl : L.length ≤ 1000) (key : ByteArray) (w : Int) : FnOK 2 Tryz.prog 11 ⟨[.slice (some ⟨0, 0, none⟩) L.length L.length, clo 13]⟩ (dfH (L.flatMap tC) 43 key w)
    (fun v g => v = fz ⟨(L.filter (keep key)).map tV⟩ ∧ g = ⟨2, 0, yH key w⟩) := by
  refine FnOK.weak1 ?_
  rcases ixI_spec key L 0 with ⟨h1, h2⟩ | ⟨i, h1, h2, h3⟩
  · have h1 : ixI key 0 L = -1 := h1
    have hsp : LSpec 2 Tryz.prog 42 (oneLoop (codeOf Tryz.f11) 5) (hookLS 2 42 [0, 1, 5, 6] [0] [0, 5] (fun vals h K => False ∧ K (.exit 0) [.slice (some ⟨0, 0, none⟩) L.length L.length, .int .i64 ((0 : Nat) : Int)] (dfH [] 43 key w))) :=
      hook_ok (G := []) (L := noHooks) (f := 600) (sameX := [0]) SPP_ok mixed (by decide) (loops_none _ _ _ _) fun vals h K q => q.1.elim
    refine FnOK.ttree SPP_ok mixed Tryz.func11 someDFP (loops_one oneDFP hsp) (dffP (L.flatMap tC) [] key w L.length 0 _ _) ?_
    refine need_mk (by rw [Nat.beq_refl, okC_iff.2 ⟨L, rfl, rfl⟩, Nat.ble_eq_true_of_le hl]; rfl) (pick_t (by rw [rdL_flat, h1]; rfl) ?_)
    refine ⟨_, _, freezeR (h := dfH (L.flatMap tC) 43 key w) (b := 0) (t := 43) (fr := (1, 1)) L [] (fun v hv => by cases hv) (Nat.le_refl _) ?_, by rw [h2], rfl⟩
    rw [List.append_nil]; rfl
  · rw [Nat.zero_add] at h1
    have h1 : ixI key 0 L = (i : Int) := h1
    obtain ⟨D, k, q1, q2, q3, q4⟩ := df_loopP hl key w (L.length - (i + 1)) (i + 1) i L (by omega) (by omega) rfl rfl h3
    have hsp : LSpec 2 Tryz.prog 42 (oneLoop (codeOf Tryz.f11) 5) (hookLS 2 42 [0, 1, 5, 6] [0] [0, 5] (fun vals h K => (vals = [.slice (some ⟨0, 0, none⟩) L.length L.length, clo 13, .int .i64 (i : Int), .int .i64 ((i + 1 : Nat) : Int)] ∧ h = dfH (L.flatMap tC) 43 key w) ∧
        K (.exit 0) [.slice (some ⟨0, 0, none⟩) L.length L.length, .int .i64 (k : Int)] (dfH (D.flatMap tC) 43 key w))) := by
      refine hook_ok (G := []) (L := noHooks) (f := 600) (sameX := [0]) SPP_ok mixed (by decide) (loops_none _ _ _ _) ?_
      rintro vals h K ⟨⟨rfl, rfl⟩, hK⟩
      exact ⟨_, q4 K hK⟩
    refine FnOK.ttree SPP_ok mixed Tryz.func11 someDFP (loops_one oneDFP hsp) (dffP (L.flatMap tC) (D.flatMap tC) key w L.length k _ _) ?_
    have n1 : (ixI key 0 L == -1) = false := by rw [h1]; exact beq_eq_false_iff_ne.2 (by omega)
    have n2 : k.beq L.length = false := by cases q : k.beq L.length with | false => rfl | true => exact absurd (Nat.eq_of_beq_eq_true q) (by omega)
    have n3 : (L.length - k).beq 0 = false := by cases q : (L.length - k).beq 0 with | false => rfl | true => exact absurd (Nat.eq_of_beq_eq_true q) (by omega)
    have hsz := size_flat D
    refine need_mk (by rw [Nat.beq_refl, okC_iff.2 ⟨L, rfl, rfl⟩, Nat.ble_eq_true_of_le hl]; rfl) (pick_f (by rw [rdL_flat, n1]) ⟨nnB L _, ⟨by rw [rdL_flat, h1, wrap1 (by omega)], rfl⟩, need_mk (by simp; omega) (pick_f n2 (pick_f n3 (need_mk ?_ (need_mk (decide_eq_true (by omega)) ?_))))⟩)
    · rw [hsz, q1, Nat.ble_eq_true_of_le (by omega)]; rfl
    · have hk : (D.take k).length = k := by rw [List.length_take]; omega
      have hflat : List.take (0 + k * 3) (D.flatMap tC) = (D.take k).flatMap tC := by
        have e1 : D.flatMap tC = (D.take k).flatMap tC ++ (D.drop k).flatMap tC := by rw [← List.flatMap_append, List.take_append_drop]
        have e2 := tC_len (D.take k)
        rw [hk] at e2
        rw [e1, Nat.zero_add, ← e2, List.take_left]
      have hrest : ∀ v ∈ zlist zC ((L.length - k) * 3) ++ List.drop (0 + k * 3 + (L.length - k) * 3) (D.flatMap tC), p1 v = true := by
        intro v hv
        rcases List.mem_append.1 hv with q | q
        · exact zl_p1 _ v q
        · exact p1_tC v (List.mem_of_mem_drop q)
      have fin : ∃ v2 g2, Weak 2 Tryz.prog #[.slice (some ⟨0, 0, none⟩) (k - 0) (L.length - 0)] ⟨2, 0, (0, .cells ⟨List.take (0 + k * 3) (D.flatMap tC) ++ zlist zC ((L.length - k) * 3) ++ List.drop (0 + k * 3 + (L.length - k) * 3) (D.flatMap tC)⟩ 43 (1, 1)) :: yH key w⟩ #[v2] g2 ∧
          v2 = fz ⟨(L.filter (keep key)).map tV⟩ ∧ g2 = ⟨2, 0, yH key w⟩ := by
        have hW := freezeR (p := 2) (P := Tryz.prog) (h := ⟨2, 0, (0, .cells ⟨List.take (0 + k * 3) (D.flatMap tC) ++ zlist zC ((L.length - k) * 3) ++ List.drop (0 + k * 3 + (L.length - k) * 3) (D.flatMap tC)⟩ 43 (1, 1)) :: yH key w⟩) (b := 0) (t := 43) (fr := (1, 1)) (cap := L.length) (D.take k) _ hrest (by rw [hk]; omega) (by rw [hflat, List.append_assoc]; rfl)
        rw [hk, q3] at hW
        exact ⟨_, _, hW, rfl, rfl⟩
      cases Nat.beq 0 L.length <;> exact fin
noncomputable def spDfP (g : FuncId) (args : Array Value) (h : AH) : Option (Bool × Value × AH) :=
  cond (Nat.beq g 11) (match args with
    | ⟨[.slice (some ⟨b, 0, none⟩) n m, .func (.func c) ⟨[]⟩ ⟨[.pointer (some ⟨y, 0, none⟩)]⟩]⟩ => match h.get b, h.get y with
      | some (.cells ⟨cs⟩ t1 fr), some (.cells ⟨[.string key, .int .i64 _]⟩ t2 fr2) => some (Nat.beq t1 43 && Nat.beq t2 40 && Nat.beq fr.1 1 && Nat.beq fr.2 1 && Nat.beq fr2.1 0 && Nat.beq fr2.2 0 && Nat.beq c 13 && Nat.beq m n && okC n cs && Nat.ble n 1000 && !Nat.beq b y && Nat.blt y h.next, fz ⟨((rdL n cs).filter (keep key)).map tV⟩, h.del b)
      | _, _ => none
    | _ => none) none
theorem spDfP_ok : SpOK spDfP := by
  intro f args h v h' hs
  unfold spDfP at hs
  obtain ⟨hf, hs2⟩ := cond_some hs
  clear hs
  have := Nat.eq_of_beq_eq_true hf
  subst this
  split at hs2
  · split at hs2
    · rename_i b n m c y _ _ cs t1 fr key w t2 fr2 hg1 hg2
      injection hs2 with hs
      injection hs with hb hs
      injection hs with hv hh
      subst hv hh
      simp only [Bool.and_eq_true, Bool.not_eq_true'] at hb
      obtain ⟨⟨⟨⟨⟨⟨⟨⟨⟨⟨⟨b1, b2⟩, b3⟩, b4⟩, b5⟩, b6⟩, b7⟩, b8⟩, b9⟩, b10⟩, b11⟩, b12⟩ := hb
      obtain ⟨f1, f2⟩ := fr
      obtain ⟨f3, f4⟩ := fr2
      simp only at b3 b4 b5 b6
      have b1 := Nat.eq_of_beq_eq_true b1
      have b2 := Nat.eq_of_beq_eq_true b2
      have b3 := Nat.eq_of_beq_eq_true b3
      have b4 := Nat.eq_of_beq_eq_true b4
      have b5 := Nat.eq_of_beq_eq_true b5
      have b6 := Nat.eq_of_beq_eq_true b6
      have b7 := Nat.eq_of_beq_eq_true b7
      have b8 := Nat.eq_of_beq_eq_true b8
      obtain ⟨L, hL, hcs⟩ := okC_iff.1 b9
      have b10 := Nat.le_of_ble_eq_true b10
      subst b1 b2 b3 b4 b5 b6 b7 b8 hL hcs
      have hne : b ≠ y := fun q => by rw [q, Nat.beq_refl] at b11; cases b11
      have hbl : ∀ i o, Ev.look i (dfH (L.flatMap tC) 43 key w).blocks = some o → (i = 0 ∧ o = .cells ⟨L.flatMap tC⟩ 43 (1, 1)) ∨ (i = 1 ∧ o = .cells ⟨[.string key, .int .i64 w]⟩ 40 (0, 0)) := by
        intro i o ho
        match i, ho with
        | 0, ho => cases ho; exact .inl ⟨rfl, rfl⟩
        | 1, ho => cases ho; exact .inr ⟨rfl, rfl⟩
        | i + 2, ho => cases ho
      have hnny : NoNames (.cells ⟨[.string key, .int .i64 w]⟩ 40 (0, 0)) := by
        intro x hx
        have hx : x ∈ [Value.string key, .int .i64 w] := hx
        simp only [List.mem_cons, List.not_mem_nil, or_false] at hx
        rcases hx with rfl | rfl <;> rfl
      refine ⟨?_, Nat.le_refl _⟩
      rw [rdL_flat]
      refine FnOK.frame (r := [(b, 0), (y, 1)]) (q := [(1, y)]) (bl := (dfH (L.flatMap tC) 43 key w).blocks) (bl' := yH key w) (lw := 0) (nx := 2) (u := fz ⟨(L.filter (keep key)).map tV⟩) (small := [.slice (some ⟨0, 0, none⟩) L.length L.length, clo 13]) (ren_two hne) ?_ ?_ (df_fnP b10 key w) ?_ ?_ ?_ ?_ ?_ ?_ ?_ ?_
      · simp [ren2s, ren2, ren1, renB, renL, clo, b11]
      · intro i o ho
        rcases hbl i o ho with ⟨rfl, rfl⟩ | ⟨rfl, rfl⟩
        · exact ⟨b, _, true, by simp, hg1, rfl, fun _ => nnB L 43⟩
        · exact ⟨y, _, true, by simp, hg2, rfl, fun _ => hnny⟩
      · have b12 : Nat.blt y (h.del b).next = true := b12
        simp [renOk, renB, invB, eqO, b12]
      · intro i a ha
        simp only [List.mem_singleton, Prod.mk.injEq] at ha
        obtain ⟨rfl, rfl⟩ := ha
        exact .inl ⟨by simp, by rw [hg2]; rfl⟩
      · exact ren2_plain rfl
      · intro a o2 ha
        by_cases hay : a = y
        · subst hay
          rw [del_ne (Ne.symm hne), hg2] at ha
          cases ha
          exact .inr ⟨1, _, true, by simp, rfl, rfl, fun _ => hnny⟩
        · left
          have hab : a ≠ b := by
            intro q
            subst q
            have : (h.del a).get a = none := look_delB_self h.blocks
            rw [this] at ha; cases ha
          rw [del_ne hab] at ha
          refine ⟨ha, fun i hi => ?_⟩
          simp only [List.mem_cons, Prod.mk.injEq, List.not_mem_nil, or_false] at hi
          rcases hi with ⟨q, _⟩ | ⟨q, _⟩
          · exact hab q
          · exact hay q
      · intro hids a o2 ha
        have hab : a ≠ b := by
          intro q
          subst q
          have : (h.del a).get a = none := look_delB_self h.blocks
          rw [this] at ha; cases ha
        rw [del_ne hab] at ha
        exact hids a o2 ha
      · exact Nat.le_refl _
      · exact Nat.min_le_left _ _
      · intro i _ hlow
        have hlow : i < min h.low b := hlow
        exact del_ne (by omega)
    · cases hs2
  · cases hs2

/-! T -/
theorem ixfT (cs : List Value) (key : ByteArray) (w r : Int) (n : Nat) (C : List Value → AH → Prop) (Q : Value → AH → Prop) : (tfn Tryz.prog SP0 [] (hook1 2 (hookLS 2 19 [0, 1, 7, 8] [0] [4] (fun vals h K => C vals h ∧ bif decide (r = -1) then K (.exit 0) [anyV] (dfH cs 48 key w) else K .ret [.int .i64 r] (dfH cs 48 key w)))) 600 [] Tryz.f36 [.slice (some ⟨0, 0, none⟩) n n, clo 16] (dfH cs 48 key w) Q) = (NoNames (Obj.cells { toList := cs } 48 (1, 1)) ∧ C [Value.slice (some { block := 0, off := 0 }) n n, Value.func (Fn.func 16) { toList := [] } { toList := [Value.pointer (some { block := 1, off := 0 })] }, Value.int IntKind.i64 ↑n, Value.int IntKind.i64 0] { next := 2, low := 2, blocks := [(0, Obj.cells { toList := cs } 48 (1, 1)), (1, Obj.cells { toList := [Value.string key, Value.int IntKind.i64 w] } 40 (0, 0))] } ∧ bif decide (r = -1) then Q (Value.int IntKind.i64 (-1)) { next := 2, low := 2, blocks := [(0, Obj.cells { toList := cs } 48 (1, 1)), (1, Obj.cells { toList := [Value.string key, Value.int IntKind.i64 w] } 40 (0, 0))] } else Q (Value.int IntKind.i64 r) { next := 2, low := 2, blocks := [(0, Obj.cells { toList := cs } 48 (1, 1)), (1, Obj.cells { toList := [Value.string key, Value.int IntKind.i64 w] } 40 (0, 0))] }) := by kernel_rfl

theorem ixrT (cs : List Value) (key : ByteArray) (w : Int) (n : Nat) (m i : Int) (B : List Value → AH → Prop) (Q : AExit → List Value → AH → Prop) :
    once 2 Tryz.prog SP0 [] noHooks 600 19 [0, 1, 7, 8] [0] [4] [0] (oneLoop (codeOf Tryz.f36) 2) [.slice (some ⟨0, 0, none⟩) n n, clo 16, .int .i64 m, .int .i64 i] (dfH cs 48 key w) B Q =
      bif decide (i < m) then bif decide (0 ≤ i) && decide (i < (n : Int)) then bif (0 + i.toNat * 3 + 3).ble (Array.mk cs).size then
        Value.agg ⟨List.take 3 (List.drop (0 + i.toNat * 3) cs)⟩ = tV (rdT (List.take 3 (List.drop (0 + i.toNat * 3) cs))) ∧
        bif !keep key (rdT (List.take 3 (List.drop (0 + i.toNat * 3) cs))) then NoNames (.cells ⟨cs⟩ 48 (1, 1)) ∧ Q .ret [.int .i64 i] (dfH cs 48 key w) else
          NoNames (.cells ⟨cs⟩ 48 (1, 1)) ∧ B [.slice (some ⟨0, 0, none⟩) n n, clo 16, .int .i64 m, .int .i64 (IntKind.i64.wrap (i + 1))] (dfH cs 48 key w)
      else False else False else NoNames (.cells ⟨cs⟩ 48 (1, 1)) ∧ Q (.exit 0) [anyV] (dfH cs 48 key w) := by kernel_rfl
theorem ix_loopT {L : List T3} (hl : L.length ≤ 1000) (key : ByteArray) (w : Int) (K : AExit → List Value → AH → Prop) :
    ∀ (r i : Nat), i + r = L.length → ixEnd K (dfH (L.flatMap tC) 48 key w) (ixI key (i : Int) (L.drop i)) →
      iter 2 Tryz.prog SP0 [] noHooks 600 19 [0, 1, 7, 8] [0] [4] [0] (oneLoop (codeOf Tryz.f36) 2) (r + 1) [.slice (some ⟨0, 0, none⟩) L.length L.length, clo 16, .int .i64 (L.length : Int), .int .i64 (i : Int)] (dfH (L.flatMap tC) 48 key w) K := by
  intro r
  induction r with
  | zero =>
    intro i h1 h2
    rw [List.drop_eq_nil_of_le (by omega)] at h2
    exact (ixrT _ _ _ _ _ _ _ K).mpr (pick_f (by simp; omega) ⟨nnB L _, h2⟩)
  | succ r ih =>
    intro i h1 h2
    have hi : i < L.length := by omega
    obtain ⟨t, ht, hget, hdr⟩ := dropT hi
    have e := get3i hget
    rw [hdr, ixI_cons] at h2
    refine (ixrT _ _ _ _ _ _ _ K).mpr (pick_t (decide_eq_true (by omega)) (need_mk (by simp; omega) (need_mk (ble3 hi) ?_)))
    rw [e]
    refine ⟨rfl, ?_⟩
    show bif !keep key t then _ else _
    cases hk : keep key t with
    | false =>
      rw [hk, cond_false] at h2
      have h2 : bif decide ((i : Int) = -1) then _ else _ := h2
      rw [decide_eq_false (by omega)] at h2
      exact pick_t rfl ⟨nnB L _, h2⟩
    | true =>
      rw [hk, cond_true] at h2
      refine pick_f rfl ⟨nnB L _, ?_⟩
      rw [wrap1 (by omega)]
      refine ih (i + 1) (by omega) ?_
      have e : ((i : Int) + 1) = ((i + 1 : Nat) : Int) := by omega
      rw [← e]; exact h2
theorem oneIXT : (loopAt (codeOf Tryz.f36) 2).length = 1 := by kernel_rfl
theorem someIXT : Tryz.f36.body.isSome = true := by kernel_rfl
theorem ix_fnT {L : List T3} (hl : L.length ≤ 1000) (key : ByteArray) (w : Int) : FnOK 2 Tryz.prog 36 ⟨[.slice (some ⟨0, 0, none⟩) L.length L.length, clo 16]⟩ (dfH (L.flatMap tC) 48 key w)
    (fun v g => v = .int .i64 (ixI key 0 L) ∧ g = dfH (L.flatMap tC) 48 key w) := by
  have hsp : LSpec 2 Tryz.prog 19 (oneLoop (codeOf Tryz.f36) 2) (hookLS 2 19 [0, 1, 7, 8] [0] [4] (fun vals h K => (vals = [.slice (some ⟨0, 0, none⟩) L.length L.length, clo 16, .int .i64 (L.length : Int), .int .i64 0] ∧ h = dfH (L.flatMap tC) 48 key w) ∧
      bif decide (ixI key 0 L = -1) then K (.exit 0) [anyV] (dfH (L.flatMap tC) 48 key w) else K .ret [.int .i64 (ixI key 0 L)] (dfH (L.flatMap tC) 48 key w))) := by
    refine hook_ok (G := []) (L := noHooks) (f := 600) (sameX := [0]) SP0_ok mixed (by decide) (loops_none _ _ _ _) ?_
    rintro vals h K ⟨⟨rfl, rfl⟩, hK⟩
    exact ⟨_, ix_loopT hl key w K L.length 0 (by omega) hK⟩
  refine FnOK.ttree SP0_ok mixed Tryz.func36 someIXT (loops_one oneIXT hsp) (ixfT (L.flatMap tC) key w (ixI key 0 L) L.length _ (fun v g => v = .int .i64 (ixI key 0 L) ∧ g = dfH (L.flatMap tC) 48 key w)) ?_
  refine ⟨nnB L _, ⟨rfl, rfl⟩, ?_⟩
  by_cases q : ixI key 0 L = -1
  · exact pick_t (decide_eq_true q) ⟨by rw [q], rfl⟩
  · exact pick_f (decide_eq_false q) ⟨rfl, rfl⟩
theorem spIxT_ok : SpOK (spIx 36 16 48) := by
  intro f args h v h' hs
  unfold spIx at hs
  obtain ⟨hf, hs2⟩ := cond_some hs
  clear hs
  have := Nat.eq_of_beq_eq_true hf
  subst this
  split at hs2
  · split at hs2
    · rename_i b n m c y _ _ cs t1 fr key w t2 fr2 hg1 hg2
      injection hs2 with hs
      injection hs with hb hs
      injection hs with hv hh
      subst hv hh
      simp only [Bool.and_eq_true, Bool.not_eq_true'] at hb
      obtain ⟨⟨⟨⟨⟨⟨⟨⟨⟨⟨b1, b2⟩, b3⟩, b4⟩, b5⟩, b6⟩, b7⟩, b8⟩, b9⟩, b10⟩, b11⟩ := hb
      obtain ⟨f1, f2⟩ := fr
      obtain ⟨f3, f4⟩ := fr2
      simp only at b3 b4 b5 b6
      have b1 := Nat.eq_of_beq_eq_true b1
      have b2 := Nat.eq_of_beq_eq_true b2
      have b3 := Nat.eq_of_beq_eq_true b3
      have b4 := Nat.eq_of_beq_eq_true b4
      have b5 := Nat.eq_of_beq_eq_true b5
      have b6 := Nat.eq_of_beq_eq_true b6
      have b7 := Nat.eq_of_beq_eq_true b7
      have b8 := Nat.eq_of_beq_eq_true b8
      obtain ⟨L, hL, hcs⟩ := okC_iff.1 b9
      have b10 := Nat.le_of_ble_eq_true b10
      subst b1 b2 b3 b4 b5 b6 b7 b8 hL hcs
      have hne : b ≠ y := fun q => by rw [q, Nat.beq_refl] at b11; cases b11
      have hbl : ∀ i o, Ev.look i (dfH (L.flatMap tC) 48 key w).blocks = some o → (i = 0 ∧ o = .cells ⟨L.flatMap tC⟩ 48 (1, 1)) ∨ (i = 1 ∧ o = .cells ⟨[.string key, .int .i64 w]⟩ 40 (0, 0)) := by
        intro i o ho
        match i, ho with
        | 0, ho => cases ho; exact .inl ⟨rfl, rfl⟩
        | 1, ho => cases ho; exact .inr ⟨rfl, rfl⟩
        | i + 2, ho => cases ho
      refine ⟨?_, Nat.le_refl _⟩
      rw [rdL_flat]
      refine FnOK.reads (r := [(b, 0), (y, 1)]) (bl := (dfH (L.flatMap tC) 48 key w).blocks) (small := [.slice (some ⟨0, 0, none⟩) L.length L.length, clo 16]) (ren_two hne) ?_ ?_ ?_ ?_ rfl
      · simp [ren2s, ren2, ren1, renB, renL, clo, b11]
      · intro i o ho
        rcases hbl i o ho with ⟨rfl, rfl⟩ | ⟨rfl, rfl⟩
        · exact ⟨b, by simp, hg1⟩
        · exact ⟨y, by simp, hg2⟩
      · intro i o ho
        rcases hbl i o ho with ⟨rfl, rfl⟩ | ⟨rfl, rfl⟩
        · exact ⟨_, _, _, rfl, nnB L 48⟩
        · refine ⟨_, _, _, rfl, fun x hx => ?_⟩
          have hx : x ∈ [Value.string key, .int .i64 w] := hx
          simp only [List.mem_cons, List.not_mem_nil, or_false] at hx
          rcases hx with rfl | rfl <;> rfl
      · refine (ix_fnT b10 key w).mono ?_
        rintro v g ⟨rfl, rfl⟩
        exact ⟨rfl, fun i o ho => ho⟩
    · cases hs2
  · cases hs2
theorem dfrT (cs : List Value) (key : ByteArray) (w : Int) (n : Nat) (i j : Int) (B : List Value → AH → Prop) (Q : AExit → List Value → AH → Prop) :
    once 2 Tryz.prog SPT [] noHooks 600 42 [0, 1, 5, 6] [0] [0, 5] [0] (oneLoop (codeOf Tryz.f14) 5) [.slice (some ⟨0, 0, none⟩) n n, clo 16, .int .i64 i, .int .i64 j] (dfH cs 48 key w) B Q =
      bif decide (j < (n : Int)) then bif decide (0 ≤ j) && decide (j < (n : Int)) then bif (0 + j.toNat * 3 + 3).ble (Array.mk cs).size then
        Value.agg ⟨List.take 3 (List.drop (0 + j.toNat * 3) cs)⟩ = tV (rdT (List.take 3 (List.drop (0 + j.toNat * 3) cs))) ∧
        bif !!keep key (rdT (List.take 3 (List.drop (0 + j.toNat * 3) cs))) then
          bif decide (0 ≤ i) && decide (i < (n : Int)) then bif (0 + i.toNat * 3 + 3).ble (Array.mk cs).size && true && true then
            NoNames (.cells (putAll ⟨cs⟩ (0 + i.toNat * 3) (tC (rdT (List.take 3 (List.drop (0 + j.toNat * 3) cs))))) 48 (1, 1)) ∧
            B [.slice (some ⟨0, 0, none⟩) n n, clo 16, .int .i64 (IntKind.i64.wrap (i + 1)), .int .i64 (IntKind.i64.wrap (j + 1))]
              ⟨2, 2, (0, .cells (putAll ⟨cs⟩ (0 + i.toNat * 3) (tC (rdT (List.take 3 (List.drop (0 + j.toNat * 3) cs))))) 48 (1, 1)) :: yH key w⟩
          else False else False
        else NoNames (.cells ⟨cs⟩ 48 (1, 1)) ∧ B [.slice (some ⟨0, 0, none⟩) n n, clo 16, .int .i64 i, .int .i64 (IntKind.i64.wrap (j + 1))] (dfH cs 48 key w)
      else False else False else NoNames (.cells ⟨cs⟩ 48 (1, 1)) ∧ Q (.exit 0) [.slice (some ⟨0, 0, none⟩) n n, .int .i64 i] (dfH cs 48 key w) := by kernel_rfl
set_option maxRecDepth 20000 in
theorem df_loopT {L : List T3} (hl : L.length ≤ 1000) (key : ByteArray) (w : Int) :
    ∀ (r j i : Nat) (D : List T3), j + r = L.length → i < j → D.length = L.length → D.drop j = L.drop j → D.take i = (L.take j).filter (keep key) →
      ∃ (D' : List T3) (k : Nat), D'.length = L.length ∧ k < L.length ∧ D'.take k = L.filter (keep key) ∧ ∀ K : AExit → List Value → AH → Prop,
        K (.exit 0) [.slice (some ⟨0, 0, none⟩) L.length L.length, .int .i64 (k : Int)] (dfH (D'.flatMap tC) 48 key w) →
        iter 2 Tryz.prog SPT [] noHooks 600 42 [0, 1, 5, 6] [0] [0, 5] [0] (oneLoop (codeOf Tryz.f14) 5) (r + 1) [.slice (some ⟨0, 0, none⟩) L.length L.length, clo 16, .int .i64 (i : Int), .int .i64 (j : Int)] (dfH (D.flatMap tC) 48 key w) K := by
  intro r
  induction r with
  | zero =>
    intro j i D h1 h2 h3 h4 h5
    refine ⟨D, i, h3, by omega, by rw [h5, List.take_of_length_le (by omega)], fun K hK => ?_⟩
    exact (dfrT _ _ _ _ _ _ _ K).mpr (pick_f (by simp; omega) ⟨nnB D _, hK⟩)
  | succ r ih =>
    intro j i D h1 h2 h3 h4 h5
    have hj : j < L.length := by omega
    obtain ⟨t, ht, hget, hdr⟩ := dropT hj
    have hD : D[j]? = some t := by
      have h6 : (D.drop j)[0]? = (L.drop j)[0]? := by rw [h4]
      rw [List.getElem?_drop, List.getElem?_drop] at h6
      rw [← hget]; exact h6
    have h4' : D.drop (j + 1) = L.drop (j + 1) := by
      have : (D.drop j).drop 1 = (L.drop j).drop 1 := by rw [h4]
      rw [List.drop_drop, List.drop_drop] at this
      exact this
    have htk : (L.take (j + 1)).filter (keep key) = (L.take j).filter (keep key) ++ (bif keep key t then [t] else []) := by
      rw [List.take_add_one, hget, List.filter_append]
      cases hk : keep key t <;> simp [hk]
    have e := get3i hD
    have hb : (0 + (j : Int).toNat * 3 + 3).ble (Array.mk (D.flatMap tC)).size = true := ble3 (by omega)
    cases hk : keep key t with
    | true =>
      have hset : (D.set i t).take (i + 1) = (L.take (j + 1)).filter (keep key) := by
        rw [htk, hk, ← h5, List.take_add_one, List.getElem?_set_self (by omega), List.take_set_of_le (Nat.le_refl _)]
        rfl
      obtain ⟨D', k, q1, q2, q3, q4⟩ := ih (j + 1) (i + 1) (D.set i t) (by omega) (by omega) (by rw [List.length_set, h3]) (by rw [List.drop_set_of_lt (by omega), h4']) hset
      refine ⟨D', k, q1, q2, q3, fun K hK => ?_⟩
      refine (dfrT _ _ _ _ _ _ _ K).mpr (pick_t (decide_eq_true (by omega)) (need_mk (by simp; omega) (need_mk hb ?_)))
      rw [e]
      refine ⟨rfl, ?_⟩
      show bif !!keep key t then _ else _
      refine pick_t (by rw [hk]; rfl) (need_mk (by simp; omega) (need_mk (by rw [ble3 (by omega)]; rfl) ?_))
      have e2 : rdT (tC t) = t := rfl
      rw [e2, put_set t (by omega)]
      refine ⟨nnB _ _, ?_⟩
      rw [wrap1 (by omega), wrap1 (by omega)]
      exact q4 K hK
    | false =>
      obtain ⟨D', k, q1, q2, q3, q4⟩ := ih (j + 1) i D (by omega) (by omega) h3 h4' (by rw [htk, hk, h5]; simp)
      refine ⟨D', k, q1, q2, q3, fun K hK => ?_⟩
      refine (dfrT _ _ _ _ _ _ _ K).mpr (pick_t (decide_eq_true (by omega)) (need_mk (by simp; omega) (need_mk hb ?_)))
      rw [e]
      refine ⟨rfl, ?_⟩
      show bif !!keep key t then _ else _
      refine pick_f (by rw [hk]; rfl) ⟨nnB _ _, ?_⟩
      rw [wrap1 (by omega)]
      exact q4 K hK
theorem SPT_ok : SPT.cfg.OK Tryz.prog := spIxT_ok.cfg
def clGT (n k : Nat) (cells : List Value) (lw : Nat) (key : ByteArray) (w : Int) (Q : Value → AH → Prop) : Prop :=
  bif decide ((k : Int) ≤ (n : Int)) then bif Nat.beq 0 n then Q (.slice (some ⟨0, 0, none⟩) (k - 0) (n - 0)) ⟨2, lw, (0, .cells ⟨cells⟩ 48 (1, 1)) :: yH key w⟩
    else Q (.slice (some ⟨0, 0, none⟩) (k - 0) (n - 0)) ⟨2, lw, (0, .cells ⟨cells⟩ 48 (1, 1)) :: yH key w⟩ else False
theorem dffT (cs cs2 : List Value) (key : ByteArray) (w : Int) (n k : Nat) (C : List Value → AH → Prop) (Q : Value → AH → Prop) :
    tfn Tryz.prog SPT [] (hook1 5 (hookLS 2 42 [0, 1, 5, 6] [0] [0, 5] (fun vals h K => C vals h ∧ K (.exit 0) [.slice (some ⟨0, 0, none⟩) n n, .int .i64 (k : Int)] (dfH cs2 48 key w)))) 600 [] Tryz.f14 [.slice (some ⟨0, 0, none⟩) n n, clo 16] (dfH cs 48 key w) Q =
      bif n.beq n && okC n cs && n.ble 1000 && true then bif ixI key 0 (rdL n cs) == -1 then Q (.slice (some ⟨0, 0, none⟩) n n) (dfH cs 48 key w) else
        NoNames (.cells ⟨cs⟩ 48 (1, 1)) ∧ C [.slice (some ⟨0, 0, none⟩) n n, clo 16, .int .i64 (ixI key 0 (rdL n cs)), .int .i64 (IntKind.i64.wrap (ixI key 0 (rdL n cs) + 1))] (dfH cs 48 key w) ∧
        bif decide ((k : Int) ≤ (n : Int)) && decide ((n : Int) ≤ (n : Int)) then
          bif k.beq n then bif (n - k).beq 0 then clGT n k cs2 2 key w Q else bif (0 + (n - k) * 3).ble (Array.mk cs2).size && true && true && true then clGT n k (List.take 0 cs2 ++ zlist zC ((n - k) * 3) ++ List.drop (0 + (n - k) * 3) cs2) 0 key w Q else False
          else bif (n - k).beq 0 then clGT n k cs2 2 key w Q else bif (0 + k * 3 + (n - k) * 3).ble (Array.mk cs2).size && true && true && true then
            clGT n k (List.take (0 + k * 3) cs2 ++ zlist zC ((n - k) * 3) ++ List.drop (0 + k * 3 + (n - k) * 3) cs2) 0 key w Q else False
        else False
      else False := by kernel_rfl
theorem oneDFT : (loopAt (codeOf Tryz.f14) 5).length = 1 := by kernel_rfl
theorem someDFT : Tryz.f14.body.isSome = true := by kernel_rfl
set_option maxRecDepth 20000 in
theorem df_fnT {L : List T3} (hl : L.length ≤ 1000) (key : ByteArray) (w : Int) : FnOK 2 Tryz.prog 14 ⟨[.slice (some ⟨0, 0, none⟩) L.length L.length, clo 16]⟩ (dfH (L.flatMap tC) 48 key w)
    (fun v g => v = fz ⟨(L.filter (keep key)).map tV⟩ ∧ g = ⟨2, 0, yH key w⟩) := by
  refine FnOK.weak1 ?_
  rcases ixI_spec key L 0 with ⟨h1, h2⟩ | ⟨i, h1, h2, h3⟩
  · have h1 : ixI key 0 L = -1 := h1
    have hsp : LSpec 2 Tryz.prog 42 (oneLoop (codeOf Tryz.f14) 5) (hookLS 2 42 [0, 1, 5, 6] [0] [0, 5] (fun vals h K => False ∧ K (.exit 0) [.slice (some ⟨0, 0, none⟩) L.length L.length, .int .i64 ((0 : Nat) : Int)] (dfH [] 48 key w))) :=
      hook_ok (G := []) (L := noHooks) (f := 600) (sameX := [0]) SPT_ok mixed (by decide) (loops_none _ _ _ _) fun vals h K q => q.1.elim
    refine FnOK.ttree SPT_ok mixed Tryz.func14 someDFT (loops_one oneDFT hsp) (dffT (L.flatMap tC) [] key w L.length 0 _ _) ?_
    refine need_mk (by rw [Nat.beq_refl, okC_iff.2 ⟨L, rfl, rfl⟩, Nat.ble_eq_true_of_le hl]; rfl) (pick_t (by rw [rdL_flat, h1]; rfl) ?_)
    refine ⟨_, _, freezeR (h := dfH (L.flatMap tC) 48 key w) (b := 0) (t := 48) (fr := (1, 1)) L [] (fun v hv => by cases hv) (Nat.le_refl _) ?_, by rw [h2], rfl⟩
    rw [List.append_nil]; rfl
  · rw [Nat.zero_add] at h1
    have h1 : ixI key 0 L = (i : Int) := h1
    obtain ⟨D, k, q1, q2, q3, q4⟩ := df_loopT hl key w (L.length - (i + 1)) (i + 1) i L (by omega) (by omega) rfl rfl h3
    have hsp : LSpec 2 Tryz.prog 42 (oneLoop (codeOf Tryz.f14) 5) (hookLS 2 42 [0, 1, 5, 6] [0] [0, 5] (fun vals h K => (vals = [.slice (some ⟨0, 0, none⟩) L.length L.length, clo 16, .int .i64 (i : Int), .int .i64 ((i + 1 : Nat) : Int)] ∧ h = dfH (L.flatMap tC) 48 key w) ∧
        K (.exit 0) [.slice (some ⟨0, 0, none⟩) L.length L.length, .int .i64 (k : Int)] (dfH (D.flatMap tC) 48 key w))) := by
      refine hook_ok (G := []) (L := noHooks) (f := 600) (sameX := [0]) SPT_ok mixed (by decide) (loops_none _ _ _ _) ?_
      rintro vals h K ⟨⟨rfl, rfl⟩, hK⟩
      exact ⟨_, q4 K hK⟩
    refine FnOK.ttree SPT_ok mixed Tryz.func14 someDFT (loops_one oneDFT hsp) (dffT (L.flatMap tC) (D.flatMap tC) key w L.length k _ _) ?_
    have n1 : (ixI key 0 L == -1) = false := by rw [h1]; exact beq_eq_false_iff_ne.2 (by omega)
    have n2 : k.beq L.length = false := by cases q : k.beq L.length with | false => rfl | true => exact absurd (Nat.eq_of_beq_eq_true q) (by omega)
    have n3 : (L.length - k).beq 0 = false := by cases q : (L.length - k).beq 0 with | false => rfl | true => exact absurd (Nat.eq_of_beq_eq_true q) (by omega)
    have hsz := size_flat D
    refine need_mk (by rw [Nat.beq_refl, okC_iff.2 ⟨L, rfl, rfl⟩, Nat.ble_eq_true_of_le hl]; rfl) (pick_f (by rw [rdL_flat, n1]) ⟨nnB L _, ⟨by rw [rdL_flat, h1, wrap1 (by omega)], rfl⟩, need_mk (by simp; omega) (pick_f n2 (pick_f n3 (need_mk ?_ (need_mk (decide_eq_true (by omega)) ?_))))⟩)
    · rw [hsz, q1, Nat.ble_eq_true_of_le (by omega)]; rfl
    · have hk : (D.take k).length = k := by rw [List.length_take]; omega
      have hflat : List.take (0 + k * 3) (D.flatMap tC) = (D.take k).flatMap tC := by
        have e1 : D.flatMap tC = (D.take k).flatMap tC ++ (D.drop k).flatMap tC := by rw [← List.flatMap_append, List.take_append_drop]
        have e2 := tC_len (D.take k)
        rw [hk] at e2
        rw [e1, Nat.zero_add, ← e2, List.take_left]
      have hrest : ∀ v ∈ zlist zC ((L.length - k) * 3) ++ List.drop (0 + k * 3 + (L.length - k) * 3) (D.flatMap tC), p1 v = true := by
        intro v hv
        rcases List.mem_append.1 hv with q | q
        · exact zl_p1 _ v q
        · exact p1_tC v (List.mem_of_mem_drop q)
      have fin : ∃ v2 g2, Weak 2 Tryz.prog #[.slice (some ⟨0, 0, none⟩) (k - 0) (L.length - 0)] ⟨2, 0, (0, .cells ⟨List.take (0 + k * 3) (D.flatMap tC) ++ zlist zC ((L.length - k) * 3) ++ List.drop (0 + k * 3 + (L.length - k) * 3) (D.flatMap tC)⟩ 48 (1, 1)) :: yH key w⟩ #[v2] g2 ∧
          v2 = fz ⟨(L.filter (keep key)).map tV⟩ ∧ g2 = ⟨2, 0, yH key w⟩ := by
        have hW := freezeR (p := 2) (P := Tryz.prog) (h := ⟨2, 0, (0, .cells ⟨List.take (0 + k * 3) (D.flatMap tC) ++ zlist zC ((L.length - k) * 3) ++ List.drop (0 + k * 3 + (L.length - k) * 3) (D.flatMap tC)⟩ 48 (1, 1)) :: yH key w⟩) (b := 0) (t := 48) (fr := (1, 1)) (cap := L.length) (D.take k) _ hrest (by rw [hk]; omega) (by rw [hflat, List.append_assoc]; rfl)
        rw [hk, q3] at hW
        exact ⟨_, _, hW, rfl, rfl⟩
      cases Nat.beq 0 L.length <;> exact fin
noncomputable def spDfT (g : FuncId) (args : Array Value) (h : AH) : Option (Bool × Value × AH) :=
  cond (Nat.beq g 14) (match args with
    | ⟨[.slice (some ⟨b, 0, none⟩) n m, .func (.func c) ⟨[]⟩ ⟨[.pointer (some ⟨y, 0, none⟩)]⟩]⟩ => match h.get b, h.get y with
      | some (.cells ⟨cs⟩ t1 fr), some (.cells ⟨[.string key, .int .i64 _]⟩ t2 fr2) => some (Nat.beq t1 48 && Nat.beq t2 40 && Nat.beq fr.1 1 && Nat.beq fr.2 1 && Nat.beq fr2.1 0 && Nat.beq fr2.2 0 && Nat.beq c 16 && Nat.beq m n && okC n cs && Nat.ble n 1000 && !Nat.beq b y && Nat.blt y h.next, fz ⟨((rdL n cs).filter (keep key)).map tV⟩, h.del b)
      | _, _ => none
    | _ => none) none
theorem spDfT_ok : SpOK spDfT := by
  intro f args h v h' hs
  unfold spDfT at hs
  obtain ⟨hf, hs2⟩ := cond_some hs
  clear hs
  have := Nat.eq_of_beq_eq_true hf
  subst this
  split at hs2
  · split at hs2
    · rename_i b n m c y _ _ cs t1 fr key w t2 fr2 hg1 hg2
      injection hs2 with hs
      injection hs with hb hs
      injection hs with hv hh
      subst hv hh
      simp only [Bool.and_eq_true, Bool.not_eq_true'] at hb
      obtain ⟨⟨⟨⟨⟨⟨⟨⟨⟨⟨⟨b1, b2⟩, b3⟩, b4⟩, b5⟩, b6⟩, b7⟩, b8⟩, b9⟩, b10⟩, b11⟩, b12⟩ := hb
      obtain ⟨f1, f2⟩ := fr
      obtain ⟨f3, f4⟩ := fr2
      simp only at b3 b4 b5 b6
      have b1 := Nat.eq_of_beq_eq_true b1
      have b2 := Nat.eq_of_beq_eq_true b2
      have b3 := Nat.eq_of_beq_eq_true b3
      have b4 := Nat.eq_of_beq_eq_true b4
      have b5 := Nat.eq_of_beq_eq_true b5
      have b6 := Nat.eq_of_beq_eq_true b6
      have b7 := Nat.eq_of_beq_eq_true b7
      have b8 := Nat.eq_of_beq_eq_true b8
      obtain ⟨L, hL, hcs⟩ := okC_iff.1 b9
      have b10 := Nat.le_of_ble_eq_true b10
      subst b1 b2 b3 b4 b5 b6 b7 b8 hL hcs
      have hne : b ≠ y := fun q => by rw [q, Nat.beq_refl] at b11; cases b11
      have hbl : ∀ i o, Ev.look i (dfH (L.flatMap tC) 48 key w).blocks = some o → (i = 0 ∧ o = .cells ⟨L.flatMap tC⟩ 48 (1, 1)) ∨ (i = 1 ∧ o = .cells ⟨[.string key, .int .i64 w]⟩ 40 (0, 0)) := by
        intro i o ho
        match i, ho with
        | 0, ho => cases ho; exact .inl ⟨rfl, rfl⟩
        | 1, ho => cases ho; exact .inr ⟨rfl, rfl⟩
        | i + 2, ho => cases ho
      have hnny : NoNames (.cells ⟨[.string key, .int .i64 w]⟩ 40 (0, 0)) := by
        intro x hx
        have hx : x ∈ [Value.string key, .int .i64 w] := hx
        simp only [List.mem_cons, List.not_mem_nil, or_false] at hx
        rcases hx with rfl | rfl <;> rfl
      refine ⟨?_, Nat.le_refl _⟩
      rw [rdL_flat]
      refine FnOK.frame (r := [(b, 0), (y, 1)]) (q := [(1, y)]) (bl := (dfH (L.flatMap tC) 48 key w).blocks) (bl' := yH key w) (lw := 0) (nx := 2) (u := fz ⟨(L.filter (keep key)).map tV⟩) (small := [.slice (some ⟨0, 0, none⟩) L.length L.length, clo 16]) (ren_two hne) ?_ ?_ (df_fnT b10 key w) ?_ ?_ ?_ ?_ ?_ ?_ ?_ ?_
      · simp [ren2s, ren2, ren1, renB, renL, clo, b11]
      · intro i o ho
        rcases hbl i o ho with ⟨rfl, rfl⟩ | ⟨rfl, rfl⟩
        · exact ⟨b, _, true, by simp, hg1, rfl, fun _ => nnB L 48⟩
        · exact ⟨y, _, true, by simp, hg2, rfl, fun _ => hnny⟩
      · have b12 : Nat.blt y (h.del b).next = true := b12
        simp [renOk, renB, invB, eqO, b12]
      · intro i a ha
        simp only [List.mem_singleton, Prod.mk.injEq] at ha
        obtain ⟨rfl, rfl⟩ := ha
        exact .inl ⟨by simp, by rw [hg2]; rfl⟩
      · exact ren2_plain rfl
      · intro a o2 ha
        by_cases hay : a = y
        · subst hay
          rw [del_ne (Ne.symm hne), hg2] at ha
          cases ha
          exact .inr ⟨1, _, true, by simp, rfl, rfl, fun _ => hnny⟩
        · left
          have hab : a ≠ b := by
            intro q
            subst q
            have : (h.del a).get a = none := look_delB_self h.blocks
            rw [this] at ha; cases ha
          rw [del_ne hab] at ha
          refine ⟨ha, fun i hi => ?_⟩
          simp only [List.mem_cons, Prod.mk.injEq, List.not_mem_nil, or_false] at hi
          rcases hi with ⟨q, _⟩ | ⟨q, _⟩
          · exact hab q
          · exact hay q
      · intro hids a o2 ha
        have hab : a ≠ b := by
          intro q
          subst q
          have : (h.del a).get a = none := look_delB_self h.blocks
          rw [this] at ha; cases ha
        rw [del_ne hab] at ha
        exact hids a o2 ha
      · exact Nat.le_refl _
      · exact Nat.min_le_left _ _
      · intro i _ hlow
        have hlow : i < min h.low b := hlow
        exact del_ne (by omega)
    · cases hs2
  · cases hs2
end Go.Proofs.YtbeodpcdjlphkaaGreatDoor
