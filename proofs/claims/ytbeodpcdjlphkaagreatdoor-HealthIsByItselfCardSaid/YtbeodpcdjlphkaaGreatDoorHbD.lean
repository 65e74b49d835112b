/-
  The health of instances: 'turns' and 'Turns' as specifications.
-/
import Derived.Test.YtbeodpcdjlphkaaGreatDoorHbC
namespace Go.Ev
open Go.RowKit
/-- A loop that is told, and then its end in other words. -/
noncomputable def thenLS (ls g : LS) : LS := fun t h K => ls t h fun e t' h' => match e with
  | .exit i => g t' h' fun _ t2 h2 => K (.exit i) t2 h2
  | e => K e t' h'
theorem thenLS_ok {p : Nat} {P : Program} {m : Nat} {b : Code} {ls g : LS} (hl : LSpec p P m b ls) (hg : GSpec p P m g) : LSpec p P m b (thenLS ls g) := by
  intro t τ h K hr hs
  refine Tri.post ((hl t τ h _ hr hs).mono ?_)
  rintro e τ' h' ⟨t', hr', hq⟩
  cases e with
  | exit i =>
    obtain ⟨t2, τ2, h2, hW, hr2, hq2⟩ := hg t' τ' h' _ hr' hq
    exact ⟨τ2, h2, hW, t2, hr2, hq2⟩
  | normal => exact ⟨τ', h', Weak.refl _ _ _ _, t', hr', hq⟩
  | ret => exact ⟨τ', h', Weak.refl _ _ _ _, t', hr', hq⟩
end Go.Ev
namespace Go.Proofs.YtbeodpcdjlphkaaGreatDoor
open Go.Ev Go.RowKit HealthLaw

def nilV : Value := .slice none 0 0
def stC (S : List St) : List Value := S.flatMap fun s => [.bool s.1, .int .i64 s.2]
def stV (s : St) : Value := .agg ⟨[.bool s.1, .int .i64 s.2]⟩
def idxV (vs : List Value) (k : ByteArray) : Nat := (plI (vs.map keyV) k).toNat
def turnsS (rise fall : Int) (idx : ByteArray → Nat) : List St → List T3 → List St
  | S, [] => S
  | S, t :: l => turnsS rise fall idx (S.set (idx t.2.1) (HealthLaw.step rise fall t.2.2 (S.getD (idx t.2.1) HealthLaw.d0)).1) l
theorem turnsS_len {rise fall : Int} {idx : ByteArray → Nat} : ∀ (L : List T3) (S : List St), (turnsS rise fall idx S L).length = S.length
  | [], S => rfl
  | t :: l, S => by rw [turnsS, turnsS_len l, List.length_set]
/-- The turns, and how all instances are then. -/
def trL (vs : List Value) (rise fall : Int) (ps : List Value) : List Value := (turnsL rise fall (idxV vs) (List.replicate vs.length HealthLaw.d0) (ps.map unT)).map tV
def nwL (vs : List Value) (rise fall : Int) (ps : List Value) : List Value := (turnsS rise fall (idxV vs) (List.replicate vs.length HealthLaw.d0) (ps.map unT)).map stV
theorem chunk_tV : ∀ L : List T3, chunk true 3 L.length (L.flatMap tC) = L.map tV
  | [] => rfl
  | t :: l => by
    have := chunk_tV l
    simp only [List.length_cons, List.flatMap_cons, List.map_cons, chunk]
    rw [show (tC t ++ l.flatMap tC).drop 3 = l.flatMap tC from rfl, this]
    rfl
def tuHN (S : List St) (rise fall : Int) : AH := ⟨2, 2, [(0, .cells ⟨[.int .i64 rise, .int .i64 fall]⟩ 30 (0, 0)), (1, .cells ⟨stC S⟩ 104 (0, 0))]⟩
def tuHB (S : List St) (rise fall : Int) (cs : List Value) : AH := ⟨3, 3, [(0, .cells ⟨[.int .i64 rise, .int .i64 fall]⟩ 30 (0, 0)), (1, .cells ⟨stC S⟩ 104 (0, 0)), (2, .cells ⟨cs⟩ 48 (0, 0))]⟩
def tuXN (S : List St) : AH := ⟨1, 1, [(0, .cells ⟨stC S⟩ 104 (0, 0))]⟩
def tuXB (S : List St) (cs : List Value) : AH := ⟨2, 2, [(0, .cells ⟨stC S⟩ 104 (0, 0)), (1, .cells ⟨cs⟩ 48 (0, 0))]⟩
def tuVl (vs ps : List Value) (e : Int) (k : Nat) (out : Value) (n i : Int) : List Value := [fz ⟨vs⟩, .int .i64 e, .pointer (some ⟨0, 0, none⟩), .slice (some ⟨1, 0, none⟩) k k, out, fz ⟨ps⟩, .int .i64 n, .int .i64 i]
theorem spPlT_ok (i : Nat) : SpOK (spPlT i) := by
  intro f args h v h' hs
  unfold spPlT at hs
  obtain ⟨hf, hs2⟩ := cond_some hs
  clear hs
  have := Nat.eq_of_beq_eq_true hf
  subst this
  split at hs2
  · injection hs2 with hs
    injection hs with hb hs
    injection hs with hv hh
    subst hv hh
    simp only [Bool.and_eq_true, decide_eq_true_eq] at hb
    obtain ⟨⟨⟨b1, b2⟩, b3⟩, b4⟩ := hb
    have := pl_fn b1 b2
    rw [b3, b4] at this
    exact ⟨FnOK.pure this rfl rfl h, Nat.le_refl _⟩
  · cases hs2
theorem SP3_ok (i : Nat) : (SP3 i).cfg.OK Tryz.prog := (spPlT_ok i).cfg
def tuT (c : Bool) (rise fall e : Int) (t : T3) (s : St) (Bn Bt : St → Prop) (X : Prop) : Prop :=
  bif decide (t.1 > e) then X else bif c then
    bif !(t.2.2 == s.1) then Bn (s.1, 0) else
      bif s.1 then bif decide (IntKind.i64.wrap (s.2 + 1) < rise) then Bn (s.1, IntKind.i64.wrap (s.2 + 1)) else Bt (!s.1, 0)
      else bif decide (IntKind.i64.wrap (s.2 + 1) < fall) then Bn (s.1, IntKind.i64.wrap (s.2 + 1)) else Bt (!s.1, 0)
  else False
theorem step_row {rise fall : Int} {g : Bool} {s : St} (h : 0 ≤ s.2) : 0 ≤ (HealthLaw.step rise fall g s).1.2 ∧ (HealthLaw.step rise fall g s).1.2 ≤ s.2 + 1 := by
  unfold HealthLaw.step
  by_cases h1 : (g != s.1) = true
  · rw [if_pos h1]; exact ⟨Int.le_refl 0, by show (0 : Int) ≤ _; omega⟩
  · rw [if_neg h1]
    by_cases h2 : s.2 + 1 < (if s.1 = true then rise else fall)
    · rw [if_pos h2]; exact ⟨by show (0 : Int) ≤ s.2 + 1; omega, Int.le_refl _⟩
    · rw [if_neg h2]; exact ⟨Int.le_refl 0, by show (0 : Int) ≤ _; omega⟩
theorem tuT_ok {c : Bool} {rise fall e : Int} {t : T3} {s : St} {Bn Bt : St → Prop} {X : Prop} (h1 : t.1 ≤ e) (hc : c = true) (h2 : 0 ≤ s.2) (h3 : s.2 ≤ 1000) (hn : (HealthLaw.step rise fall t.2.2 s).2 = false → Bn (HealthLaw.step rise fall t.2.2 s).1) (ht : (HealthLaw.step rise fall t.2.2 s).2 = true → Bt (HealthLaw.step rise fall t.2.2 s).1) :
    tuT c rise fall e t s Bn Bt X := by
  have w : IntKind.i64.wrap (s.2 + 1) = s.2 + 1 := wrap_id _ (by omega) (by omega)
  refine pick_f (decide_eq_false (by omega)) (need_mk hc ?_)
  rw [w]
  unfold HealthLaw.step at hn ht
  cases hb : t.2.2 == s.1 with
  | false =>
    have hb2 : (t.2.2 != s.1) = true := by rw [bne, hb]; rfl
    rw [hb2] at hn
    exact pick_t rfl (hn rfl)
  | true =>
    have hb2 : (t.2.2 != s.1) = false := by rw [bne, hb]; rfl
    rw [hb2, if_neg Bool.false_ne_true] at hn ht
    refine pick_f rfl ?_
    cases hs : s.1 with
    | true =>
      rw [hs, if_pos rfl] at hn ht
      by_cases q : s.2 + 1 < rise
      · rw [if_pos q] at hn; exact pick_t rfl (pick_t (decide_eq_true q) (hn rfl))
      · rw [if_neg q] at ht; exact pick_t rfl (pick_f (decide_eq_false q) (ht rfl))
    | false =>
      rw [hs, if_neg Bool.false_ne_true] at hn ht
      by_cases q : s.2 + 1 < fall
      · rw [if_pos q] at hn; exact pick_f rfl (pick_t (decide_eq_true q) (hn rfl))
      · rw [if_neg q] at ht; exact pick_f rfl (pick_f (decide_eq_false q) (ht rfl))
noncomputable def plc (vs : List Value) (i0 : Nat) (k : ByteArray) : Bool := okI vs && inPK k && plF (List.map keyV vs) k && decide (plI (List.map keyV vs) k = (i0 : Int))
def elT (ps : List Value) (i : Int) : T3 := rdT (((Array.mk ps).toList.getD i.toNat undef).cells.toList)
def turnT (t : T3) (s : St) : T3 := (t.1, t.2.1, !s.1)
/-- A round, no turn so far. -/
theorem roundN (vs ps : List Value) (e rise fall n i : Int) (B : List Value → AH → Prop) (Q : AExit → List Value → AH → Prop) : ∀ (S : List St) (i0 : Nat), i0 < S.length → S.length ≤ 4 →
    once 0 Tryz.prog (SP3 i0) [] noHooks 900 60 [0, 3, 5, 10, 11, 19, 20, 21] [2] [10, 11] [1] (oneLoop (codeOf Tryz.f26) 4) (tuVl vs ps e S.length nilV n i) (tuHN S rise fall) B Q =
      bif decide (i < n) then bif decide (0 ≤ i) && decide (i < ((Array.mk ps).size : Int)) && true then
        (Array.mk ps).toList.getD i.toNat (Value.tuple { toList := [] }) = tV (elT ps i) ∧ tuT (plc vs i0 (elT ps i).2.1) rise fall e (elT ps i) (S.getD i0 HealthLaw.d0)
          (fun s => B (tuVl vs ps e S.length nilV n (IntKind.i64.wrap (i + 1))) (tuHN (S.set i0 s) rise fall))
          (fun s => NoNames (.cells ⟨tC (turnT (elT ps i) s)⟩ 48 (0, 0)) ∧ B (tuVl vs ps e S.length (.slice (some ⟨2, 0, none⟩) 1 1) n (IntKind.i64.wrap (i + 1))) (tuHB (S.set i0 s) rise fall (tC (turnT (elT ps i) s))))
          (Q (.exit 0) [.slice (some ⟨0, 0, none⟩) S.length S.length, nilV] (tuXN S))
      else False else Q (.exit 0) [.slice (some ⟨0, 0, none⟩) S.length S.length, nilV] (tuXN S)
  | [(d0, r0)], 0, _, _ => by kernel_rfl
  | [(d0, r0), (d1, r1)], 0, _, _ => by kernel_rfl
  | [(d0, r0), (d1, r1)], 1, _, _ => by kernel_rfl
  | [(d0, r0), (d1, r1), (d2, r2)], 0, _, _ => by kernel_rfl
  | [(d0, r0), (d1, r1), (d2, r2)], 1, _, _ => by kernel_rfl
  | [(d0, r0), (d1, r1), (d2, r2)], 2, _, _ => by kernel_rfl
  | [(d0, r0), (d1, r1), (d2, r2), (d3, r3)], 0, _, _ => by kernel_rfl
  | [(d0, r0), (d1, r1), (d2, r2), (d3, r3)], 1, _, _ => by kernel_rfl
  | [(d0, r0), (d1, r1), (d2, r2), (d3, r3)], 2, _, _ => by kernel_rfl
  | [(d0, r0), (d1, r1), (d2, r2), (d3, r3)], 3, _, _ => by kernel_rfl
/-- A round, some turns so far. -/
theorem roundB (vs ps cs : List Value) (e rise fall n i : Int) (m : Nat) (B : List Value → AH → Prop) (Q : AExit → List Value → AH → Prop) : ∀ (S : List St) (i0 : Nat), i0 < S.length → S.length ≤ 4 →
    once 0 Tryz.prog (SP3 i0) [] noHooks 900 60 [0, 3, 5, 10, 11, 19, 20, 21] [2] [10, 11] [1] (oneLoop (codeOf Tryz.f26) 4) (tuVl vs ps e S.length (.slice (some ⟨2, 0, none⟩) m m) n i) (tuHB S rise fall cs) B Q =
      bif decide (i < n) then bif decide (0 ≤ i) && decide (i < ((Array.mk ps).size : Int)) && true then
        (Array.mk ps).toList.getD i.toNat (Value.tuple { toList := [] }) = tV (elT ps i) ∧ tuT (plc vs i0 (elT ps i).2.1) rise fall e (elT ps i) (S.getD i0 HealthLaw.d0)
          (fun s => NoNames (.cells ⟨cs⟩ 48 (0, 0)) ∧ B (tuVl vs ps e S.length (.slice (some ⟨2, 0, none⟩) m m) n (IntKind.i64.wrap (i + 1))) (tuHB (S.set i0 s) rise fall cs))
          (fun s => bif (m + 1).ble m then False else bif (m + 1).ble 9223372036854775807 && ((m + 1) * 32).ble 140737488355328 then bif (0 + m * 3).ble (Array.mk cs).size && true && true then
            NoNames (.cells ⟨List.take (m * 3) (List.drop 0 (Array.mk cs).toList) ++ tC (turnT (elT ps i) s)⟩ 48 (0, 0)) ∧
            B (tuVl vs ps e S.length (.slice (some ⟨2, 0, none⟩) (m + 1) (m + 1)) n (IntKind.i64.wrap (i + 1))) (tuHB (S.set i0 s) rise fall (List.take (m * 3) (List.drop 0 (Array.mk cs).toList) ++ tC (turnT (elT ps i) s)))
            else False else False)
          (NoNames (.cells ⟨cs⟩ 48 (0, 0)) ∧ Q (.exit 0) [.slice (some ⟨0, 0, none⟩) S.length S.length, .slice (some ⟨1, 0, none⟩) m m] (tuXB S cs))
      else False else NoNames (.cells ⟨cs⟩ 48 (0, 0)) ∧ Q (.exit 0) [.slice (some ⟨0, 0, none⟩) S.length S.length, .slice (some ⟨1, 0, none⟩) m m] (tuXB S cs)
  | [(d0, r0)], 0, _, _ => by kernel_rfl
  | [(d0, r0), (d1, r1)], 0, _, _ => by kernel_rfl
  | [(d0, r0), (d1, r1)], 1, _, _ => by kernel_rfl
  | [(d0, r0), (d1, r1), (d2, r2)], 0, _, _ => by kernel_rfl
  | [(d0, r0), (d1, r1), (d2, r2)], 1, _, _ => by kernel_rfl
  | [(d0, r0), (d1, r1), (d2, r2)], 2, _, _ => by kernel_rfl
  | [(d0, r0), (d1, r1), (d2, r2), (d3, r3)], 0, _, _ => by kernel_rfl
  | [(d0, r0), (d1, r1), (d2, r2), (d3, r3)], 1, _, _ => by kernel_rfl
  | [(d0, r0), (d1, r1), (d2, r2), (d3, r3)], 2, _, _ => by kernel_rfl
  | [(d0, r0), (d1, r1), (d2, r2), (d3, r3)], 3, _, _ => by kernel_rfl
def outH : List T3 → Value
  | [] => nilV
  | t :: l => .slice (some ⟨2, 0, none⟩) (t :: l).length (t :: l).length
def tuH (S : List St) (rise fall : Int) : List T3 → AH
  | [] => tuHN S rise fall
  | t :: l => tuHB S rise fall ((t :: l).flatMap tC)
def outX : List T3 → Value
  | [] => nilV
  | t :: l => .slice (some ⟨1, 0, none⟩) (t :: l).length (t :: l).length
def tuX (S : List St) : List T3 → AH
  | [] => tuXN S
  | t :: l => tuXB S ((t :: l).flatMap tC)
theorem plI_lt : ∀ ks ∈ keyI, ∀ k ∈ keysP, plF ks k = true → 0 ≤ plI ks k ∧ plI ks k < (ks.length : Int) := by decide +kernel
theorem keyI_len : ∀ ks ∈ keyI, 1 ≤ ks.length ∧ ks.length ≤ 4 := by decide +kernel
theorem okI_len {vs : List Value} (h : okI vs = true) : 1 ≤ vs.length ∧ vs.length ≤ 4 := by
  obtain ⟨L, ⟨h1, _⟩, rfl⟩ := okI_iff.1 h
  have := keyI_len _ h1
  rw [List.length_map] at this ⊢
  exact this
theorem okI_keys {vs : List Value} (h : okI vs = true) : vs.map keyV ∈ keyI := by
  obtain ⟨L, ⟨h1, _⟩, rfl⟩ := okI_iff.1 h
  rw [keyV_map]; exact h1
theorem idx_lt {vs : List Value} (h : okI vs = true) {k : ByteArray} (hk : inPK k = true) (hf : plF (vs.map keyV) k = true) : plI (vs.map keyV) k = (idxV vs k : Int) ∧ idxV vs k < vs.length := by
  have := plI_lt _ (okI_keys h) k (inPK_mem hk) hf
  rw [List.length_map] at this
  unfold idxV
  omega
theorem elT_of {L : List T3} {i : Nat} {t : T3} (h : L[i]? = some t) : elT (L.map tV) (i : Int) = t := by
  unfold elT
  rw [getTi h]
  rfl
theorem tu_loop {vs : List Value} (hv : okI vs = true) {L : List T3} (hL : Tok L) (hc : chkOk (fun k => plF (vs.map keyV) k) none L) {rise fall : Int} (b1 : 1 ≤ rise) (b2 : rise ≤ 3) (b3 : 1 ≤ fall) (b4 : fall ≤ 3) (K : AExit → List Value → AH → Prop) :
    ∀ (l : List T3) (i : Nat) (S : List St) (O : List T3), L.drop i = l → i + l.length = L.length → S.length = vs.length → (∀ s ∈ S, 0 ≤ s.2 ∧ s.2 ≤ (i : Int)) → O.length ≤ i →
      K (.exit 0) [.slice (some ⟨0, 0, none⟩) S.length S.length, outX (O ++ turnsL rise fall (idxV vs) S l)] (tuX (turnsS rise fall (idxV vs) S l) (O ++ turnsL rise fall (idxV vs) S l)) →
      iterE 0 Tryz.prog 60 [0, 3, 5, 10, 11, 19, 20, 21] [2] [10, 11] [1] (oneLoop (codeOf Tryz.f26) 4)  (l.length + 1) (tuVl vs (L.map tV) 345686400000 S.length (outH O) (L.length : Int) (i : Int)) (tuH S rise fall O) K := by
  have h16 := hL.2
  obtain ⟨k1, k4⟩ := okI_len hv
  intro l
  induction l with
  | nil =>
    intro i S O h1 h2 h3 h4 h5 hK
    have hi : i = L.length := by simpa using h2
    simp only [turnsL, turnsS, List.append_nil] at hK
    cases O with
    | nil => exact ⟨SP3 0, [], noHooks, 900, SP3_ok 0, loops_none _ _ _ _, (roundN _ _ _ _ _ _ _ _ K S 0 (by omega) (by omega)).mpr (pick_f (by simp; omega) hK)⟩
    | cons u o => exact ⟨SP3 0, [], noHooks, 900, SP3_ok 0, loops_none _ _ _ _, (roundB _ _ _ _ _ _ _ _ _ _ K S 0 (by omega) (by omega)).mpr (pick_f (by simp; omega) ⟨nnF _ _ _, hK⟩)⟩
  | cons t l ih =>
    intro i S O h1 h2 h3 h4 h5 hK
    have hi : i < L.length := by rw [List.length_cons] at h2; omega
    obtain ⟨t', ht', hget, hdr⟩ := dropT hi
    rw [h1] at hdr
    have ett : t = t' := (List.cons.inj hdr).1
    subst ett
    have hdl : L.drop (i + 1) = l := ((List.cons.inj hdr).2).symm
    obtain ⟨c1, c2, c3⟩ := ok_known hc t ht'
    have c1 : plF (vs.map keyV) t.2.1 = true := c1
    have hin := hL.1 t ht'
    obtain ⟨hidx, hilt⟩ := idx_lt hv hin c1
    have hil : idxV vs t.2.1 < S.length := by omega
    have hs : S.getD (idxV vs t.2.1) HealthLaw.d0 ∈ S := by
      have : S.getD (idxV vs t.2.1) HealthLaw.d0 = S[idxV vs t.2.1] := by simp [List.getD, hil]
      rw [this]; exact List.getElem_mem hil
    obtain ⟨s1, s2⟩ := h4 _ hs
    have hel := elT_of hget
    have hpc : plc vs (idxV vs t.2.1) t.2.1 = true := by unfold plc; rw [hv, hin, c1, decide_eq_true hidx]; rfl
    have hrow : ∀ s ∈ S.set (idxV vs t.2.1) (HealthLaw.step rise fall t.2.2 (S.getD (idxV vs t.2.1) HealthLaw.d0)).1, 0 ≤ s.2 ∧ s.2 ≤ ((i + 1 : Nat) : Int) := by
      intro s hs
      rcases List.mem_or_eq_of_mem_set hs with q | q
      · have := h4 s q; omega
      · have : 0 ≤ (HealthLaw.step rise fall t.2.2 (S.getD (idxV vs t.2.1) HealthLaw.d0)).1.2 ∧ (HealthLaw.step rise fall t.2.2 (S.getD (idxV vs t.2.1) HealthLaw.d0)).1.2 ≤ (S.getD (idxV vs t.2.1) HealthLaw.d0).2 + 1 := step_row s1
        rw [q]; omega
    have hsz := size_map L
    rw [turnsL_cons] at hK
    have hK : K (.exit 0) [.slice (some ⟨0, 0, none⟩) S.length S.length, outX (O ++ (cond (HealthLaw.step rise fall t.2.2 (S.getD (idxV vs t.2.1) HealthLaw.d0)).2 [turnT t (HealthLaw.step rise fall t.2.2 (S.getD (idxV vs t.2.1) HealthLaw.d0)).1] [] ++ turnsL rise fall (idxV vs) (S.set (idxV vs t.2.1) (HealthLaw.step rise fall t.2.2 (S.getD (idxV vs t.2.1) HealthLaw.d0)).1) l))]
        (tuX (turnsS rise fall (idxV vs) (S.set (idxV vs t.2.1) (HealthLaw.step rise fall t.2.2 (S.getD (idxV vs t.2.1) HealthLaw.d0)).1) l) (O ++ (cond (HealthLaw.step rise fall t.2.2 (S.getD (idxV vs t.2.1) HealthLaw.d0)).2 [turnT t (HealthLaw.step rise fall t.2.2 (S.getD (idxV vs t.2.1) HealthLaw.d0)).1] [] ++ turnsL rise fall (idxV vs) (S.set (idxV vs t.2.1) (HealthLaw.step rise fall t.2.2 (S.getD (idxV vs t.2.1) HealthLaw.d0)).1) l))) := hK
    have next : ∀ O2 : List T3, O2.length ≤ i + 1 → O ++ (cond (HealthLaw.step rise fall t.2.2 (S.getD (idxV vs t.2.1) HealthLaw.d0)).2 [turnT t (HealthLaw.step rise fall t.2.2 (S.getD (idxV vs t.2.1) HealthLaw.d0)).1] [] ++ turnsL rise fall (idxV vs) (S.set (idxV vs t.2.1) (HealthLaw.step rise fall t.2.2 (S.getD (idxV vs t.2.1) HealthLaw.d0)).1) l) = O2 ++ turnsL rise fall (idxV vs) (S.set (idxV vs t.2.1) (HealthLaw.step rise fall t.2.2 (S.getD (idxV vs t.2.1) HealthLaw.d0)).1) l →
        iterE 0 Tryz.prog 60 [0, 3, 5, 10, 11, 19, 20, 21] [2] [10, 11] [1] (oneLoop (codeOf Tryz.f26) 4)  (l.length + 1) (tuVl vs (L.map tV) 345686400000 S.length (outH O2) (L.length : Int) ((i + 1 : Nat) : Int)) (tuH (S.set (idxV vs t.2.1) (HealthLaw.step rise fall t.2.2 (S.getD (idxV vs t.2.1) HealthLaw.d0)).1) rise fall O2) K := by
      intro O2 ho2 he
      rw [he] at hK
      have hl : (S.set (idxV vs t.2.1) (HealthLaw.step rise fall t.2.2 (S.getD (idxV vs t.2.1) HealthLaw.d0)).1).length = S.length := List.length_set
      have := ih (i + 1) _ O2 hdl (by rw [List.length_cons] at h2; omega) (by rw [hl]; exact h3) hrow ho2 (by rw [hl]; exact hK)
      rw [hl] at this
      exact this
    have hb : (decide (0 ≤ (i : Int)) && decide ((i : Int) < ((Array.mk (L.map tV)).size : Int)) && true) = true := by simp; omega
    cases O with
    | nil =>
      refine ⟨SP3 (idxV vs t.2.1), [], noHooks, 900, SP3_ok _, loops_none _ _ _ _, (roundN _ _ _ _ _ _ _ _ K S (idxV vs t.2.1) hil (by omega)).mpr (pick_t (decide_eq_true (by omega)) (need_mk hb ?_))⟩
      rw [hel]
      refine ⟨getTi hget, tuT_ok (by omega) hpc s1 (by omega) (fun q => ?_) (fun q => ⟨?_, ?_⟩)⟩
      · rw [wrap1 (by omega)]
        exact next [] (by simp) (by rw [q]; rfl)
      · have := nnF [turnT t (HealthLaw.step rise fall t.2.2 (S.getD (idxV vs t.2.1) HealthLaw.d0)).1] 48 (0, 0)
        exact this
      · rw [wrap1 (by omega)]
        exact next [turnT t (HealthLaw.step rise fall t.2.2 (S.getD (idxV vs t.2.1) HealthLaw.d0)).1] (by simp) (by rw [q]; rfl)
    | cons u o =>
      refine ⟨SP3 (idxV vs t.2.1), [], noHooks, 900, SP3_ok _, loops_none _ _ _ _, (roundB _ _ _ _ _ _ _ _ _ _ K S (idxV vs t.2.1) hil (by omega)).mpr (pick_t (decide_eq_true (by omega)) (need_mk hb ?_))⟩
      rw [hel]
      have hfl : List.take ((u :: o).length * 3) (List.drop 0 (Array.mk ((u :: o).flatMap tC)).toList) = (u :: o).flatMap tC := by
        have := tC_len (u :: o)
        rw [List.drop_zero]
        exact List.take_of_length_le (by show ((u :: o).flatMap tC).length ≤ _; omega)
      refine ⟨getTi hget, tuT_ok (by omega) hpc s1 (by omega) (fun q => ⟨nnF _ _ _, ?_⟩) (fun q => pick_f (ble_ss _) (need_mk ?_ (need_mk ?_ ?_)))⟩
      · rw [wrap1 (by omega)]
        exact next (u :: o) (by omega) (by rw [q]; rfl)
      · rw [Bool.and_eq_true, Nat.ble_eq, Nat.ble_eq]; omega
      · have := size_flat (u :: o)
        rw [this, Nat.ble_eq_true_of_le (by omega)]; rfl
      · have e : (u :: o).flatMap tC ++ tC (turnT t (HealthLaw.step rise fall t.2.2 (S.getD (idxV vs t.2.1) HealthLaw.d0)).1) = ((u :: o) ++ [turnT t (HealthLaw.step rise fall t.2.2 (S.getD (idxV vs t.2.1) HealthLaw.d0)).1]).flatMap tC := by simp
        rw [hfl, e, wrap1 (by omega)]
        refine ⟨nnF _ _ _, ?_⟩
        have := next ((u :: o) ++ [turnT t (HealthLaw.step rise fall t.2.2 (S.getD (idxV vs t.2.1) HealthLaw.d0)).1]) (by simp at h5 ⊢; omega) (by rw [q, List.append_assoc]; rfl)
        have e3 : outH ((u :: o) ++ [turnT t (HealthLaw.step rise fall t.2.2 (S.getD (idxV vs t.2.1) HealthLaw.d0)).1]) = .slice (some ⟨2, 0, none⟩) ((u :: o).length + 1) ((u :: o).length + 1) := by
          show Value.slice (some ⟨2, 0, none⟩) ((u :: o) ++ [_]).length ((u :: o) ++ [_]).length = _
          rw [List.length_append]; rfl
        rw [e3] at this
        exact this
theorem one4t : (loopAt (codeOf Tryz.f26) 4).length = 1 := by kernel_rfl
theorem someTS : Tryz.f26.body.isSome = true := by kernel_rfl
theorem len1 {S : List St} (h : S.length = 1) : ∃ (d0 : Bool) (r0 : Int), S = [(d0, r0)] := by
  match S, h with
  | [(d0, r0)], _ => exact ⟨d0, r0, rfl⟩
theorem tf1N (v0 : Value) (ps : List Value) (e rise fall : Int) (d0 : Bool) (r0 : Int) (cs : List Value) (m : Nat) (C : List Value → AH → Prop) (Q : Value → Prop) : (tfn Tryz.prog SP0 [] (hook1 4 (thenLS (hookLS 0 60 [0, 3, 5, 10, 11, 19, 20, 21] [2] [10, 11] (fun vals h K => C vals h ∧ K (.exit 0) [.slice (some ⟨0, 0, none⟩) 1 1, .slice none 0 0] ⟨1, 1, [(0, .cells ⟨[.bool d0, .int .i64 r0]⟩ 104 (0, 0))]⟩)) (freezeG 60 true 2 [10]))) 600 [] Tryz.f26 [fz ⟨[v0]⟩, .agg ⟨[.int .i64 rise, .int .i64 fall]⟩, fz ⟨ps⟩, .int .i64 e] h0 (fun v _ => Q v)) = (C [Value.func (Fn.yield 0) { toList := [v0] } { toList := [] }, Value.int IntKind.i64 e, Value.pointer (some { block := 0, off := 0 }), Value.slice (some { block := 1, off := 0 }) 1 1, Value.slice none 0 0, Value.func (Fn.yield 0) { toList := ps } { toList := [] }, Value.int IntKind.i64 ((Array.mk ps).size : Int), Value.int IntKind.i64 0] { next := 2, low := 2, blocks := [(0, Obj.cells { toList := [Value.int IntKind.i64 rise, Value.int IntKind.i64 fall] } 30 (0, 0)), (1, Obj.cells { toList := [Value.bool false, Value.int IntKind.i64 0] } 104 (0, 0))] } ∧ Q (Value.tuple { toList := [Value.slice none 0 0, Value.func (Fn.yield 0) { toList := [Value.agg { toList := [Value.bool d0, Value.int IntKind.i64 r0] }] } { toList := [] }] })) := by kernel_rfl

theorem tf1B (v0 : Value) (ps : List Value) (e rise fall : Int) (d0 : Bool) (r0 : Int) (cs : List Value) (m : Nat) (C : List Value → AH → Prop) (Q : Value → Prop) :
    tfn Tryz.prog SP0 [] (hook1 4 (thenLS (hookLS 0 60 [0, 3, 5, 10, 11, 19, 20, 21] [2] [10, 11] (fun vals h K => C vals h ∧ K (.exit 0) [.slice (some ⟨0, 0, none⟩) 1 1, .slice (some ⟨1, 0, none⟩) m m] (tuXB [(d0, r0)] cs))) (thenG (freezeG 60 true 2 [10]) (freezeG 60 true 3 [11])))) 600 [] Tryz.f26 [fz ⟨[v0]⟩, .agg ⟨[.int .i64 rise, .int .i64 fall]⟩, fz ⟨ps⟩, .int .i64 e] h0 (fun v _ => Q v) =
      (C (tuVl [v0] ps e 1 nilV ((Array.mk ps).size : Int) 0) (tuHN (List.replicate 1 HealthLaw.d0) rise fall) ∧ bif ((Nat.beq m m && Nat.beq m m) && true) && cs.all p1 && m.ble m && (m * 3).ble cs.length && true then
        Q (.tuple ⟨[fz ⟨chunk true 3 m cs⟩, fz ⟨[(d0, r0)].map stV⟩]⟩) else False) := by kernel_rfl
theorem ts_fn1 {v0 : Value} (hv : okI [v0] = true) {L : List T3} (hL : Tok L) (hc : chkOk (fun k => plF (List.map keyV [v0]) k) none L) {rise fall : Int} (b1 : 1 ≤ rise) (b2 : rise ≤ 3) (b3 : 1 ≤ fall) (b4 : fall ≤ 3) :
    FnOK 0 Tryz.prog 26 ⟨[fz ⟨[v0]⟩, .agg ⟨[.int .i64 rise, .int .i64 fall]⟩, fz ⟨L.map tV⟩, .int .i64 345686400000]⟩ h0 (fun v _ => v = .tuple ⟨[scD (isE (trL [v0] rise fall (L.map tV))) (trL [v0] rise fall (L.map tV)), fz ⟨nwL [v0] rise fall (L.map tV)⟩]⟩) := by
  have hlen := turnsS_len (rise := rise) (fall := fall) (idx := idxV [v0]) L (List.replicate 1 HealthLaw.d0)
  obtain ⟨d0, r0, hS⟩ := len1 (hlen.trans List.length_replicate)
  have h16 := hL.2
  have hz := size_map L
  have hT : trL [v0] rise fall (L.map tV) = (turnsL rise fall (idxV [v0]) (List.replicate 1 HealthLaw.d0) L).map tV := by unfold trL; rw [unT_map]; rfl
  have hN : nwL [v0] rise fall (L.map tV) = [(d0, r0)].map stV := by unfold nwL; rw [unT_map, ← hS]; rfl
  have hex : ∀ K : AExit → List Value → AH → Prop, K (.exit 0) [.slice (some ⟨0, 0, none⟩) 1 1, outX (turnsL rise fall (idxV [v0]) (List.replicate 1 HealthLaw.d0) L)] (tuX [(d0, r0)] (turnsL rise fall (idxV [v0]) (List.replicate 1 HealthLaw.d0) L)) →
      ∃ n, iterE 0 Tryz.prog 60 [0, 3, 5, 10, 11, 19, 20, 21] [2] [10, 11] [1] (oneLoop (codeOf Tryz.f26) 4)  n (tuVl [v0] (L.map tV) 345686400000 1 nilV (L.length : Int) 0) (tuHN (List.replicate 1 HealthLaw.d0) rise fall) K := by
    intro K hK
    have hl := tu_loop hv hL hc b1 b2 b3 b4 K L 0 (List.replicate 1 HealthLaw.d0) [] rfl (by simp) rfl (fun s hs => by rw [List.eq_of_mem_replicate hs]; exact ⟨Int.le_refl _, Int.le_refl _⟩) (Nat.le_refl _) (by rw [hS]; exact hK)
    exact ⟨_, hl⟩
  rw [hT, hN]
  cases hO : turnsL rise fall (idxV [v0]) (List.replicate 1 HealthLaw.d0) L with
  | nil =>
    rw [hO] at hex
    have hsp : LSpec 0 Tryz.prog 60 (oneLoop (codeOf Tryz.f26) 4) (thenLS (hookLS 0 60 [0, 3, 5, 10, 11, 19, 20, 21] [2] [10, 11] (fun vals h K => (vals = tuVl [v0] (L.map tV) 345686400000 1 nilV (L.length : Int) 0 ∧ h = tuHN (List.replicate 1 HealthLaw.d0) rise fall) ∧ K (.exit 0) [.slice (some ⟨0, 0, none⟩) 1 1, .slice none 0 0] (tuXN [(d0, r0)]))) (freezeG 60 true 2 [10])) := by
      refine thenLS_ok (hookE_ok (sameX := [1]) mixed (by decide) ?_) (freezeG_ok _ _ _ _ _ _)
      rintro vals h K ⟨⟨rfl, rfl⟩, hK⟩
      exact hex K hK
    rw [show isE (List.map tV ([] : List T3)) = true from isE_iff.2 rfl]
    refine FnOK.ttree SP0_ok mixed Tryz.func26 someTS (loops_one one4t hsp) (tf1N v0 (L.map tV) 345686400000 rise fall d0 r0 [] 0 _ (fun v => v = .tuple ⟨[.slice none 0 0, fz ⟨[(d0, r0)].map stV⟩]⟩)) ?_
    exact ⟨⟨by rw [hz]; rfl, rfl⟩, rfl⟩
  | cons t l =>
    rw [hO] at hex
    have hsp : LSpec 0 Tryz.prog 60 (oneLoop (codeOf Tryz.f26) 4) (thenLS (hookLS 0 60 [0, 3, 5, 10, 11, 19, 20, 21] [2] [10, 11] (fun vals h K => (vals = tuVl [v0] (L.map tV) 345686400000 1 nilV (L.length : Int) 0 ∧ h = tuHN (List.replicate 1 HealthLaw.d0) rise fall) ∧ K (.exit 0) [.slice (some ⟨0, 0, none⟩) 1 1, .slice (some ⟨1, 0, none⟩) (t :: l).length (t :: l).length] (tuXB [(d0, r0)] ((t :: l).flatMap tC)))) (thenG (freezeG 60 true 2 [10]) (freezeG 60 true 3 [11]))) := by
      refine thenLS_ok (hookE_ok (sameX := [1]) mixed (by decide) ?_) (thenG_ok (freezeG_ok _ _ _ _ _ _) (freezeG_ok _ _ _ _ _ _))
      rintro vals h K ⟨⟨rfl, rfl⟩, hK⟩
      exact hex K hK
    have he : isE ((t :: l).map tV) = false := by
      cases q : isE ((t :: l).map tV) with
      | false => rfl
      | true => have := isE_iff.1 q; cases this
    rw [he]
    refine FnOK.ttree SP0_ok mixed Tryz.func26 someTS (loops_one one4t hsp) (tf1B v0 (L.map tV) 345686400000 rise fall d0 r0 ((t :: l).flatMap tC) (t :: l).length _ (fun v => v = .tuple ⟨[fz ⟨(t :: l).map tV⟩, fz ⟨[(d0, r0)].map stV⟩]⟩)) ?_
    refine ⟨⟨by rw [hz], rfl⟩, need_mk ?_ (by rw [chunk_tV])⟩
    rw [Nat.beq_refl, Nat.ble_eq_true_of_le (Nat.le_refl _), tC_len, Nat.ble_eq_true_of_le (Nat.le_refl _), List.all_eq_true.2 (fun v hv => p1_tC v hv)]
    rfl
theorem len2 {S : List St} (h : S.length = 2) : ∃ (d0 d1 : Bool) (r0 r1 : Int), S = [(d0, r0), (d1, r1)] := by
  match S, h with
  | [(d0, r0), (d1, r1)], _ => exact ⟨d0, d1, r0, r1, rfl⟩
theorem tf2N (v0 v1 : Value) (ps : List Value) (e rise fall : Int) (d0 d1 : Bool) (r0 r1 : Int) (cs : List Value) (m : Nat) (C : List Value → AH → Prop) (Q : Value → Prop) : (tfn Tryz.prog SP0 [] (hook1 4 (thenLS (hookLS 0 60 [0, 3, 5, 10, 11, 19, 20, 21] [2] [10, 11] (fun vals h K => C vals h ∧ K (.exit 0) [.slice (some ⟨0, 0, none⟩) 2 2, .slice none 0 0] ⟨1, 1, [(0, .cells ⟨[.bool d0, .int .i64 r0, .bool d1, .int .i64 r1]⟩ 104 (0, 0))]⟩)) (freezeG 60 true 2 [10]))) 600 [] Tryz.f26 [fz ⟨[v0, v1]⟩, .agg ⟨[.int .i64 rise, .int .i64 fall]⟩, fz ⟨ps⟩, .int .i64 e] h0 (fun v _ => Q v)) = (C [Value.func (Fn.yield 0) { toList := [v0, v1] } { toList := [] }, Value.int IntKind.i64 e, Value.pointer (some { block := 0, off := 0 }), Value.slice (some { block := 1, off := 0 }) 2 2, Value.slice none 0 0, Value.func (Fn.yield 0) { toList := ps } { toList := [] }, Value.int IntKind.i64 ((Array.mk ps).size : Int), Value.int IntKind.i64 0] { next := 2, low := 2, blocks := [(0, Obj.cells { toList := [Value.int IntKind.i64 rise, Value.int IntKind.i64 fall] } 30 (0, 0)), (1, Obj.cells { toList := [Value.bool false, Value.int IntKind.i64 0, Value.bool false, Value.int IntKind.i64 0] } 104 (0, 0))] } ∧ Q (Value.tuple { toList := [Value.slice none 0 0, Value.func (Fn.yield 0) { toList := [Value.agg { toList := [Value.bool d0, Value.int IntKind.i64 r0] }, Value.agg { toList := [Value.bool d1, Value.int IntKind.i64 r1] }] } { toList := [] }] })) := by kernel_rfl

theorem tf2B (v0 v1 : Value) (ps : List Value) (e rise fall : Int) (d0 d1 : Bool) (r0 r1 : Int) (cs : List Value) (m : Nat) (C : List Value → AH → Prop) (Q : Value → Prop) :
    tfn Tryz.prog SP0 [] (hook1 4 (thenLS (hookLS 0 60 [0, 3, 5, 10, 11, 19, 20, 21] [2] [10, 11] (fun vals h K => C vals h ∧ K (.exit 0) [.slice (some ⟨0, 0, none⟩) 2 2, .slice (some ⟨1, 0, none⟩) m m] (tuXB [(d0, r0), (d1, r1)] cs))) (thenG (freezeG 60 true 2 [10]) (freezeG 60 true 3 [11])))) 600 [] Tryz.f26 [fz ⟨[v0, v1]⟩, .agg ⟨[.int .i64 rise, .int .i64 fall]⟩, fz ⟨ps⟩, .int .i64 e] h0 (fun v _ => Q v) =
      (C (tuVl [v0, v1] ps e 2 nilV ((Array.mk ps).size : Int) 0) (tuHN (List.replicate 2 HealthLaw.d0) rise fall) ∧ bif ((Nat.beq m m && Nat.beq m m) && true) && cs.all p1 && m.ble m && (m * 3).ble cs.length && true then
        Q (.tuple ⟨[fz ⟨chunk true 3 m cs⟩, fz ⟨[(d0, r0), (d1, r1)].map stV⟩]⟩) else False) := by kernel_rfl
theorem ts_fn2 {v0 v1 : Value} (hv : okI [v0, v1] = true) {L : List T3} (hL : Tok L) (hc : chkOk (fun k => plF (List.map keyV [v0, v1]) k) none L) {rise fall : Int} (b1 : 1 ≤ rise) (b2 : rise ≤ 3) (b3 : 1 ≤ fall) (b4 : fall ≤ 3) :
    FnOK 0 Tryz.prog 26 ⟨[fz ⟨[v0, v1]⟩, .agg ⟨[.int .i64 rise, .int .i64 fall]⟩, fz ⟨L.map tV⟩, .int .i64 345686400000]⟩ h0 (fun v _ => v = .tuple ⟨[scD (isE (trL [v0, v1] rise fall (L.map tV))) (trL [v0, v1] rise fall (L.map tV)), fz ⟨nwL [v0, v1] rise fall (L.map tV)⟩]⟩) := by
  have hlen := turnsS_len (rise := rise) (fall := fall) (idx := idxV [v0, v1]) L (List.replicate 2 HealthLaw.d0)
  obtain ⟨d0, d1, r0, r1, hS⟩ := len2 (hlen.trans List.length_replicate)
  have h16 := hL.2
  have hz := size_map L
  have hT : trL [v0, v1] rise fall (L.map tV) = (turnsL rise fall (idxV [v0, v1]) (List.replicate 2 HealthLaw.d0) L).map tV := by unfold trL; rw [unT_map]; rfl
  have hN : nwL [v0, v1] rise fall (L.map tV) = [(d0, r0), (d1, r1)].map stV := by unfold nwL; rw [unT_map, ← hS]; rfl
  have hex : ∀ K : AExit → List Value → AH → Prop, K (.exit 0) [.slice (some ⟨0, 0, none⟩) 2 2, outX (turnsL rise fall (idxV [v0, v1]) (List.replicate 2 HealthLaw.d0) L)] (tuX [(d0, r0), (d1, r1)] (turnsL rise fall (idxV [v0, v1]) (List.replicate 2 HealthLaw.d0) L)) →
      ∃ n, iterE 0 Tryz.prog 60 [0, 3, 5, 10, 11, 19, 20, 21] [2] [10, 11] [1] (oneLoop (codeOf Tryz.f26) 4)  n (tuVl [v0, v1] (L.map tV) 345686400000 2 nilV (L.length : Int) 0) (tuHN (List.replicate 2 HealthLaw.d0) rise fall) K := by
    intro K hK
    have hl := tu_loop hv hL hc b1 b2 b3 b4 K L 0 (List.replicate 2 HealthLaw.d0) [] rfl (by simp) rfl (fun s hs => by rw [List.eq_of_mem_replicate hs]; exact ⟨Int.le_refl _, Int.le_refl _⟩) (Nat.le_refl _) (by rw [hS]; exact hK)
    exact ⟨_, hl⟩
  rw [hT, hN]
  cases hO : turnsL rise fall (idxV [v0, v1]) (List.replicate 2 HealthLaw.d0) L with
  | nil =>
    rw [hO] at hex
    have hsp : LSpec 0 Tryz.prog 60 (oneLoop (codeOf Tryz.f26) 4) (thenLS (hookLS 0 60 [0, 3, 5, 10, 11, 19, 20, 21] [2] [10, 11] (fun vals h K => (vals = tuVl [v0, v1] (L.map tV) 345686400000 2 nilV (L.length : Int) 0 ∧ h = tuHN (List.replicate 2 HealthLaw.d0) rise fall) ∧ K (.exit 0) [.slice (some ⟨0, 0, none⟩) 2 2, .slice none 0 0] (tuXN [(d0, r0), (d1, r1)]))) (freezeG 60 true 2 [10])) := by
      refine thenLS_ok (hookE_ok (sameX := [1]) mixed (by decide) ?_) (freezeG_ok _ _ _ _ _ _)
      rintro vals h K ⟨⟨rfl, rfl⟩, hK⟩
      exact hex K hK
    rw [show isE (List.map tV ([] : List T3)) = true from isE_iff.2 rfl]
    refine FnOK.ttree SP0_ok mixed Tryz.func26 someTS (loops_one one4t hsp) (tf2N v0 v1 (L.map tV) 345686400000 rise fall d0 d1 r0 r1 [] 0 _ (fun v => v = .tuple ⟨[.slice none 0 0, fz ⟨[(d0, r0), (d1, r1)].map stV⟩]⟩)) ?_
    exact ⟨⟨by rw [hz]; rfl, rfl⟩, rfl⟩
  | cons t l =>
    rw [hO] at hex
    have hsp : LSpec 0 Tryz.prog 60 (oneLoop (codeOf Tryz.f26) 4) (thenLS (hookLS 0 60 [0, 3, 5, 10, 11, 19, 20, 21] [2] [10, 11] (fun vals h K => (vals = tuVl [v0, v1] (L.map tV) 345686400000 2 nilV (L.length : Int) 0 ∧ h = tuHN (List.replicate 2 HealthLaw.d0) rise fall) ∧ K (.exit 0) [.slice (some ⟨0, 0, none⟩) 2 2, .slice (some ⟨1, 0, none⟩) (t :: l).length (t :: l).length] (tuXB [(d0, r0), (d1, r1)] ((t :: l).flatMap tC)))) (thenG (freezeG 60 true 2 [10]) (freezeG 60 true 3 [11]))) := by
      refine thenLS_ok (hookE_ok (sameX := [1]) mixed (by decide) ?_) (thenG_ok (freezeG_ok _ _ _ _ _ _) (freezeG_ok _ _ _ _ _ _))
      rintro vals h K ⟨⟨rfl, rfl⟩, hK⟩
      exact hex K hK
    have he : isE ((t :: l).map tV) = false := by
      cases q : isE ((t :: l).map tV) with
      | false => rfl
      | true => have := isE_iff.1 q; cases this
    rw [he]
    refine FnOK.ttree SP0_ok mixed Tryz.func26 someTS (loops_one one4t hsp) (tf2B v0 v1 (L.map tV) 345686400000 rise fall d0 d1 r0 r1 ((t :: l).flatMap tC) (t :: l).length _ (fun v => v = .tuple ⟨[fz ⟨(t :: l).map tV⟩, fz ⟨[(d0, r0), (d1, r1)].map stV⟩]⟩)) ?_
    refine ⟨⟨by rw [hz], rfl⟩, need_mk ?_ (by rw [chunk_tV])⟩
    rw [Nat.beq_refl, Nat.ble_eq_true_of_le (Nat.le_refl _), tC_len, Nat.ble_eq_true_of_le (Nat.le_refl _), List.all_eq_true.2 (fun v hv => p1_tC v hv)]
    rfl
theorem len3 {S : List St} (h : S.length = 3) : ∃ (d0 d1 d2 : Bool) (r0 r1 r2 : Int), S = [(d0, r0), (d1, r1), (d2, r2)] := by
  match S, h with
  | [(d0, r0), (d1, r1), (d2, r2)], _ => exact ⟨d0, d1, d2, r0, r1, r2, rfl⟩
theorem tf3N (v0 v1 v2 : Value) (ps : List Value) (e rise fall : Int) (d0 d1 d2 : Bool) (r0 r1 r2 : Int) (cs : List Value) (m : Nat) (C : List Value → AH → Prop) (Q : Value → Prop) : (tfn Tryz.prog SP0 [] (hook1 4 (thenLS (hookLS 0 60 [0, 3, 5, 10, 11, 19, 20, 21] [2] [10, 11] (fun vals h K => C vals h ∧ K (.exit 0) [.slice (some ⟨0, 0, none⟩) 3 3, .slice none 0 0] ⟨1, 1, [(0, .cells ⟨[.bool d0, .int .i64 r0, .bool d1, .int .i64 r1, .bool d2, .int .i64 r2]⟩ 104 (0, 0))]⟩)) (freezeG 60 true 2 [10]))) 600 [] Tryz.f26 [fz ⟨[v0, v1, v2]⟩, .agg ⟨[.int .i64 rise, .int .i64 fall]⟩, fz ⟨ps⟩, .int .i64 e] h0 (fun v _ => Q v)) = (C [Value.func (Fn.yield 0) { toList := [v0, v1, v2] } { toList := [] }, Value.int IntKind.i64 e, Value.pointer (some { block := 0, off := 0 }), Value.slice (some { block := 1, off := 0 }) 3 3, Value.slice none 0 0, Value.func (Fn.yield 0) { toList := ps } { toList := [] }, Value.int IntKind.i64 ((Array.mk ps).size : Int), Value.int IntKind.i64 0] { next := 2, low := 2, blocks := [(0, Obj.cells { toList := [Value.int IntKind.i64 rise, Value.int IntKind.i64 fall] } 30 (0, 0)), (1, Obj.cells { toList := [Value.bool false, Value.int IntKind.i64 0, Value.bool false, Value.int IntKind.i64 0, Value.bool false, Value.int IntKind.i64 0] } 104 (0, 0))] } ∧ Q (Value.tuple { toList := [Value.slice none 0 0, Value.func (Fn.yield 0) { toList := [Value.agg { toList := [Value.bool d0, Value.int IntKind.i64 r0] }, Value.agg { toList := [Value.bool d1, Value.int IntKind.i64 r1] }, Value.agg { toList := [Value.bool d2, Value.int IntKind.i64 r2] }] } { toList := [] }] })) := by kernel_rfl

theorem tf3B (v0 v1 v2 : Value) (ps : List Value) (e rise fall : Int) (d0 d1 d2 : Bool) (r0 r1 r2 : Int) (cs : List Value) (m : Nat) (C : List Value → AH → Prop) (Q : Value → Prop) :
    tfn Tryz.prog SP0 [] (hook1 4 (thenLS (hookLS 0 60 [0, 3, 5, 10, 11, 19, 20, 21] [2] [10, 11] (fun vals h K => C vals h ∧ K (.exit 0) [.slice (some ⟨0, 0, none⟩) 3 3, .slice (some ⟨1, 0, none⟩) m m] (tuXB [(d0, r0), (d1, r1), (d2, r2)] cs))) (thenG (freezeG 60 true 2 [10]) (freezeG 60 true 3 [11])))) 600 [] Tryz.f26 [fz ⟨[v0, v1, v2]⟩, .agg ⟨[.int .i64 rise, .int .i64 fall]⟩, fz ⟨ps⟩, .int .i64 e] h0 (fun v _ => Q v) =
      (C (tuVl [v0, v1, v2] ps e 3 nilV ((Array.mk ps).size : Int) 0) (tuHN (List.replicate 3 HealthLaw.d0) rise fall) ∧ bif ((Nat.beq m m && Nat.beq m m) && true) && cs.all p1 && m.ble m && (m * 3).ble cs.length && true then
        Q (.tuple ⟨[fz ⟨chunk true 3 m cs⟩, fz ⟨[(d0, r0), (d1, r1), (d2, r2)].map stV⟩]⟩) else False) := by kernel_rfl
theorem ts_fn3 {v0 v1 v2 : Value} (hv : okI [v0, v1, v2] = true) {L : List T3} (hL : Tok L) (hc : chkOk (fun k => plF (List.map keyV [v0, v1, v2]) k) none L) {rise fall : Int} (b1 : 1 ≤ rise) (b2 : rise ≤ 3) (b3 : 1 ≤ fall) (b4 : fall ≤ 3) :
    FnOK 0 Tryz.prog 26 ⟨[fz ⟨[v0, v1, v2]⟩, .agg ⟨[.int .i64 rise, .int .i64 fall]⟩, fz ⟨L.map tV⟩, .int .i64 345686400000]⟩ h0 (fun v _ => v = .tuple ⟨[scD (isE (trL [v0, v1, v2] rise fall (L.map tV))) (trL [v0, v1, v2] rise fall (L.map tV)), fz ⟨nwL [v0, v1, v2] rise fall (L.map tV)⟩]⟩) := by
  have hlen := turnsS_len (rise := rise) (fall := fall) (idx := idxV [v0, v1, v2]) L (List.replicate 3 HealthLaw.d0)
  obtain ⟨d0, d1, d2, r0, r1, r2, hS⟩ := len3 (hlen.trans List.length_replicate)
  have h16 := hL.2
  have hz := size_map L
  have hT : trL [v0, v1, v2] rise fall (L.map tV) = (turnsL rise fall (idxV [v0, v1, v2]) (List.replicate 3 HealthLaw.d0) L).map tV := by unfold trL; rw [unT_map]; rfl
  have hN : nwL [v0, v1, v2] rise fall (L.map tV) = [(d0, r0), (d1, r1), (d2, r2)].map stV := by unfold nwL; rw [unT_map, ← hS]; rfl
  have hex : ∀ K : AExit → List Value → AH → Prop, K (.exit 0) [.slice (some ⟨0, 0, none⟩) 3 3, outX (turnsL rise fall (idxV [v0, v1, v2]) (List.replicate 3 HealthLaw.d0) L)] (tuX [(d0, r0), (d1, r1), (d2, r2)] (turnsL rise fall (idxV [v0, v1, v2]) (List.replicate 3 HealthLaw.d0) L)) →
      ∃ n, iterE 0 Tryz.prog 60 [0, 3, 5, 10, 11, 19, 20, 21] [2] [10, 11] [1] (oneLoop (codeOf Tryz.f26) 4)  n (tuVl [v0, v1, v2] (L.map tV) 345686400000 3 nilV (L.length : Int) 0) (tuHN (List.replicate 3 HealthLaw.d0) rise fall) K := by
    intro K hK
    have hl := tu_loop hv hL hc b1 b2 b3 b4 K L 0 (List.replicate 3 HealthLaw.d0) [] rfl (by simp) rfl (fun s hs => by rw [List.eq_of_mem_replicate hs]; exact ⟨Int.le_refl _, Int.le_refl _⟩) (Nat.le_refl _) (by rw [hS]; exact hK)
    exact ⟨_, hl⟩
  rw [hT, hN]
  cases hO : turnsL rise fall (idxV [v0, v1, v2]) (List.replicate 3 HealthLaw.d0) L with
  | nil =>
    rw [hO] at hex
    have hsp : LSpec 0 Tryz.prog 60 (oneLoop (codeOf Tryz.f26) 4) (thenLS (hookLS 0 60 [0, 3, 5, 10, 11, 19, 20, 21] [2] [10, 11] (fun vals h K => (vals = tuVl [v0, v1, v2] (L.map tV) 345686400000 3 nilV (L.length : Int) 0 ∧ h = tuHN (List.replicate 3 HealthLaw.d0) rise fall) ∧ K (.exit 0) [.slice (some ⟨0, 0, none⟩) 3 3, .slice none 0 0] (tuXN [(d0, r0), (d1, r1), (d2, r2)]))) (freezeG 60 true 2 [10])) := by
      refine thenLS_ok (hookE_ok (sameX := [1]) mixed (by decide) ?_) (freezeG_ok _ _ _ _ _ _)
      rintro vals h K ⟨⟨rfl, rfl⟩, hK⟩
      exact hex K hK
    rw [show isE (List.map tV ([] : List T3)) = true from isE_iff.2 rfl]
    refine FnOK.ttree SP0_ok mixed Tryz.func26 someTS (loops_one one4t hsp) (tf3N v0 v1 v2 (L.map tV) 345686400000 rise fall d0 d1 d2 r0 r1 r2 [] 0 _ (fun v => v = .tuple ⟨[.slice none 0 0, fz ⟨[(d0, r0), (d1, r1), (d2, r2)].map stV⟩]⟩)) ?_
    exact ⟨⟨by rw [hz]; rfl, rfl⟩, rfl⟩
  | cons t l =>
    rw [hO] at hex
    have hsp : LSpec 0 Tryz.prog 60 (oneLoop (codeOf Tryz.f26) 4) (thenLS (hookLS 0 60 [0, 3, 5, 10, 11, 19, 20, 21] [2] [10, 11] (fun vals h K => (vals = tuVl [v0, v1, v2] (L.map tV) 345686400000 3 nilV (L.length : Int) 0 ∧ h = tuHN (List.replicate 3 HealthLaw.d0) rise fall) ∧ K (.exit 0) [.slice (some ⟨0, 0, none⟩) 3 3, .slice (some ⟨1, 0, none⟩) (t :: l).length (t :: l).length] (tuXB [(d0, r0), (d1, r1), (d2, r2)] ((t :: l).flatMap tC)))) (thenG (freezeG 60 true 2 [10]) (freezeG 60 true 3 [11]))) := by
      refine thenLS_ok (hookE_ok (sameX := [1]) mixed (by decide) ?_) (thenG_ok (freezeG_ok _ _ _ _ _ _) (freezeG_ok _ _ _ _ _ _))
      rintro vals h K ⟨⟨rfl, rfl⟩, hK⟩
      exact hex K hK
    have he : isE ((t :: l).map tV) = false := by
      cases q : isE ((t :: l).map tV) with
      | false => rfl
      | true => have := isE_iff.1 q; cases this
    rw [he]
    refine FnOK.ttree SP0_ok mixed Tryz.func26 someTS (loops_one one4t hsp) (tf3B v0 v1 v2 (L.map tV) 345686400000 rise fall d0 d1 d2 r0 r1 r2 ((t :: l).flatMap tC) (t :: l).length _ (fun v => v = .tuple ⟨[fz ⟨(t :: l).map tV⟩, fz ⟨[(d0, r0), (d1, r1), (d2, r2)].map stV⟩]⟩)) ?_
    refine ⟨⟨by rw [hz], rfl⟩, need_mk ?_ (by rw [chunk_tV])⟩
    rw [Nat.beq_refl, Nat.ble_eq_true_of_le (Nat.le_refl _), tC_len, Nat.ble_eq_true_of_le (Nat.le_refl _), List.all_eq_true.2 (fun v hv => p1_tC v hv)]
    rfl
theorem len4 {S : List St} (h : S.length = 4) : ∃ (d0 d1 d2 d3 : Bool) (r0 r1 r2 r3 : Int), S = [(d0, r0), (d1, r1), (d2, r2), (d3, r3)] := by
  match S, h with
  | [(d0, r0), (d1, r1), (d2, r2), (d3, r3)], _ => exact ⟨d0, d1, d2, d3, r0, r1, r2, r3, rfl⟩
theorem tf4N (v0 v1 v2 v3 : Value) (ps : List Value) (e rise fall : Int) (d0 d1 d2 d3 : Bool) (r0 r1 r2 r3 : Int) (cs : List Value) (m : Nat) (C : List Value → AH → Prop) (Q : Value → Prop) : (tfn Tryz.prog SP0 [] (hook1 4 (thenLS (hookLS 0 60 [0, 3, 5, 10, 11, 19, 20, 21] [2] [10, 11] (fun vals h K => C vals h ∧ K (.exit 0) [.slice (some ⟨0, 0, none⟩) 4 4, .slice none 0 0] ⟨1, 1, [(0, .cells ⟨[.bool d0, .int .i64 r0, .bool d1, .int .i64 r1, .bool d2, .int .i64 r2, .bool d3, .int .i64 r3]⟩ 104 (0, 0))]⟩)) (freezeG 60 true 2 [10]))) 600 [] Tryz.f26 [fz ⟨[v0, v1, v2, v3]⟩, .agg ⟨[.int .i64 rise, .int .i64 fall]⟩, fz ⟨ps⟩, .int .i64 e] h0 (fun v _ => Q v)) = (C [Value.func (Fn.yield 0) { toList := [v0, v1, v2, v3] } { toList := [] }, Value.int IntKind.i64 e, Value.pointer (some { block := 0, off := 0 }), Value.slice (some { block := 1, off := 0 }) 4 4, Value.slice none 0 0, Value.func (Fn.yield 0) { toList := ps } { toList := [] }, Value.int IntKind.i64 ((Array.mk ps).size : Int), Value.int IntKind.i64 0] { next := 2, low := 2, blocks := [(0, Obj.cells { toList := [Value.int IntKind.i64 rise, Value.int IntKind.i64 fall] } 30 (0, 0)), (1, Obj.cells { toList := [Value.bool false, Value.int IntKind.i64 0, Value.bool false, Value.int IntKind.i64 0, Value.bool false, Value.int IntKind.i64 0, Value.bool false, Value.int IntKind.i64 0] } 104 (0, 0))] } ∧ Q (Value.tuple { toList := [Value.slice none 0 0, Value.func (Fn.yield 0) { toList := [Value.agg { toList := [Value.bool d0, Value.int IntKind.i64 r0] }, Value.agg { toList := [Value.bool d1, Value.int IntKind.i64 r1] }, Value.agg { toList := [Value.bool d2, Value.int IntKind.i64 r2] }, Value.agg { toList := [Value.bool d3, Value.int IntKind.i64 r3] }] } { toList := [] }] })) := by kernel_rfl

theorem tf4B (v0 v1 v2 v3 : Value) (ps : List Value) (e rise fall : Int) (d0 d1 d2 d3 : Bool) (r0 r1 r2 r3 : Int) (cs : List Value) (m : Nat) (C : List Value → AH → Prop) (Q : Value → Prop) :
    tfn Tryz.prog SP0 [] (hook1 4 (thenLS (hookLS 0 60 [0, 3, 5, 10, 11, 19, 20, 21] [2] [10, 11] (fun vals h K => C vals h ∧ K (.exit 0) [.slice (some ⟨0, 0, none⟩) 4 4, .slice (some ⟨1, 0, none⟩) m m] (tuXB [(d0, r0), (d1, r1), (d2, r2), (d3, r3)] cs))) (thenG (freezeG 60 true 2 [10]) (freezeG 60 true 3 [11])))) 600 [] Tryz.f26 [fz ⟨[v0, v1, v2, v3]⟩, .agg ⟨[.int .i64 rise, .int .i64 fall]⟩, fz ⟨ps⟩, .int .i64 e] h0 (fun v _ => Q v) =
      (C (tuVl [v0, v1, v2, v3] ps e 4 nilV ((Array.mk ps).size : Int) 0) (tuHN (List.replicate 4 HealthLaw.d0) rise fall) ∧ bif ((Nat.beq m m && Nat.beq m m) && true) && cs.all p1 && m.ble m && (m * 3).ble cs.length && true then
        Q (.tuple ⟨[fz ⟨chunk true 3 m cs⟩, fz ⟨[(d0, r0), (d1, r1), (d2, r2), (d3, r3)].map stV⟩]⟩) else False) := by kernel_rfl
theorem ts_fn4 {v0 v1 v2 v3 : Value} (hv : okI [v0, v1, v2, v3] = true) {L : List T3} (hL : Tok L) (hc : chkOk (fun k => plF (List.map keyV [v0, v1, v2, v3]) k) none L) {rise fall : Int} (b1 : 1 ≤ rise) (b2 : rise ≤ 3) (b3 : 1 ≤ fall) (b4 : fall ≤ 3) :
    FnOK 0 Tryz.prog 26 ⟨[fz ⟨[v0, v1, v2, v3]⟩, .agg ⟨[.int .i64 rise, .int .i64 fall]⟩, fz ⟨L.map tV⟩, .int .i64 345686400000]⟩ h0 (fun v _ => v = .tuple ⟨[scD (isE (trL [v0, v1, v2, v3] rise fall (L.map tV))) (trL [v0, v1, v2, v3] rise fall (L.map tV)), fz ⟨nwL [v0, v1, v2, v3] rise fall (L.map tV)⟩]⟩) := by
  have hlen := turnsS_len (rise := rise) (fall := fall) (idx := idxV [v0, v1, v2, v3]) L (List.replicate 4 HealthLaw.d0)
  obtain ⟨d0, d1, d2, d3, r0, r1, r2, r3, hS⟩ := len4 (hlen.trans List.length_replicate)
  have h16 := hL.2
  have hz := size_map L
  have hT : trL [v0, v1, v2, v3] rise fall (L.map tV) = (turnsL rise fall (idxV [v0, v1, v2, v3]) (List.replicate 4 HealthLaw.d0) L).map tV := by unfold trL; rw [unT_map]; rfl
  have hN : nwL [v0, v1, v2, v3] rise fall (L.map tV) = [(d0, r0), (d1, r1), (d2, r2), (d3, r3)].map stV := by unfold nwL; rw [unT_map, ← hS]; rfl
  have hex : ∀ K : AExit → List Value → AH → Prop, K (.exit 0) [.slice (some ⟨0, 0, none⟩) 4 4, outX (turnsL rise fall (idxV [v0, v1, v2, v3]) (List.replicate 4 HealthLaw.d0) L)] (tuX [(d0, r0), (d1, r1), (d2, r2), (d3, r3)] (turnsL rise fall (idxV [v0, v1, v2, v3]) (List.replicate 4 HealthLaw.d0) L)) →
      ∃ n, iterE 0 Tryz.prog 60 [0, 3, 5, 10, 11, 19, 20, 21] [2] [10, 11] [1] (oneLoop (codeOf Tryz.f26) 4)  n (tuVl [v0, v1, v2, v3] (L.map tV) 345686400000 4 nilV (L.length : Int) 0) (tuHN (List.replicate 4 HealthLaw.d0) rise fall) K := by
    intro K hK
    have hl := tu_loop hv hL hc b1 b2 b3 b4 K L 0 (List.replicate 4 HealthLaw.d0) [] rfl (by simp) rfl (fun s hs => by rw [List.eq_of_mem_replicate hs]; exact ⟨Int.le_refl _, Int.le_refl _⟩) (Nat.le_refl _) (by rw [hS]; exact hK)
    exact ⟨_, hl⟩
  rw [hT, hN]
  cases hO : turnsL rise fall (idxV [v0, v1, v2, v3]) (List.replicate 4 HealthLaw.d0) L with
  | nil =>
    rw [hO] at hex
    have hsp : LSpec 0 Tryz.prog 60 (oneLoop (codeOf Tryz.f26) 4) (thenLS (hookLS 0 60 [0, 3, 5, 10, 11, 19, 20, 21] [2] [10, 11] (fun vals h K => (vals = tuVl [v0, v1, v2, v3] (L.map tV) 345686400000 4 nilV (L.length : Int) 0 ∧ h = tuHN (List.replicate 4 HealthLaw.d0) rise fall) ∧ K (.exit 0) [.slice (some ⟨0, 0, none⟩) 4 4, .slice none 0 0] (tuXN [(d0, r0), (d1, r1), (d2, r2), (d3, r3)]))) (freezeG 60 true 2 [10])) := by
      refine thenLS_ok (hookE_ok (sameX := [1]) mixed (by decide) ?_) (freezeG_ok _ _ _ _ _ _)
      rintro vals h K ⟨⟨rfl, rfl⟩, hK⟩
      exact hex K hK
    rw [show isE (List.map tV ([] : List T3)) = true from isE_iff.2 rfl]
    refine FnOK.ttree SP0_ok mixed Tryz.func26 someTS (loops_one one4t hsp) (tf4N v0 v1 v2 v3 (L.map tV) 345686400000 rise fall d0 d1 d2 d3 r0 r1 r2 r3 [] 0 _ (fun v => v = .tuple ⟨[.slice none 0 0, fz ⟨[(d0, r0), (d1, r1), (d2, r2), (d3, r3)].map stV⟩]⟩)) ?_
    exact ⟨⟨by rw [hz]; rfl, rfl⟩, rfl⟩
  | cons t l =>
    rw [hO] at hex
    have hsp : LSpec 0 Tryz.prog 60 (oneLoop (codeOf Tryz.f26) 4) (thenLS (hookLS 0 60 [0, 3, 5, 10, 11, 19, 20, 21] [2] [10, 11] (fun vals h K => (vals = tuVl [v0, v1, v2, v3] (L.map tV) 345686400000 4 nilV (L.length : Int) 0 ∧ h = tuHN (List.replicate 4 HealthLaw.d0) rise fall) ∧ K (.exit 0) [.slice (some ⟨0, 0, none⟩) 4 4, .slice (some ⟨1, 0, none⟩) (t :: l).length (t :: l).length] (tuXB [(d0, r0), (d1, r1), (d2, r2), (d3, r3)] ((t :: l).flatMap tC)))) (thenG (freezeG 60 true 2 [10]) (freezeG 60 true 3 [11]))) := by
      refine thenLS_ok (hookE_ok (sameX := [1]) mixed (by decide) ?_) (thenG_ok (freezeG_ok _ _ _ _ _ _) (freezeG_ok _ _ _ _ _ _))
      rintro vals h K ⟨⟨rfl, rfl⟩, hK⟩
      exact hex K hK
    have he : isE ((t :: l).map tV) = false := by
      cases q : isE ((t :: l).map tV) with
      | false => rfl
      | true => have := isE_iff.1 q; cases this
    rw [he]
    refine FnOK.ttree SP0_ok mixed Tryz.func26 someTS (loops_one one4t hsp) (tf4B v0 v1 v2 v3 (L.map tV) 345686400000 rise fall d0 d1 d2 d3 r0 r1 r2 r3 ((t :: l).flatMap tC) (t :: l).length _ (fun v => v = .tuple ⟨[fz ⟨(t :: l).map tV⟩, fz ⟨[(d0, r0), (d1, r1), (d2, r2), (d3, r3)].map stV⟩]⟩)) ?_
    refine ⟨⟨by rw [hz], rfl⟩, need_mk ?_ (by rw [chunk_tV])⟩
    rw [Nat.beq_refl, Nat.ble_eq_true_of_le (Nat.le_refl _), tC_len, Nat.ble_eq_true_of_le (Nat.le_refl _), List.all_eq_true.2 (fun v hv => p1_tC v hv)]
    rfl
theorem ts_fn {vs : List Value} (hv : okI vs = true) {L : List T3} (hL : Tok L) (hc : chkOk (fun k => plF (List.map keyV vs) k) none L) {rise fall : Int} (b1 : 1 ≤ rise) (b2 : rise ≤ 3) (b3 : 1 ≤ fall) (b4 : fall ≤ 3) :
    FnOK 0 Tryz.prog 26 ⟨[fz ⟨vs⟩, .agg ⟨[.int .i64 rise, .int .i64 fall]⟩, fz ⟨L.map tV⟩, .int .i64 345686400000]⟩ h0 (fun v _ => v = .tuple ⟨[scD (isE (trL vs rise fall (L.map tV))) (trL vs rise fall (L.map tV)), fz ⟨nwL vs rise fall (L.map tV)⟩]⟩) := by
  obtain ⟨k1, k4⟩ := okI_len hv
  match vs, k1, k4, hv, hc with
  | [_], _, _, hv, hc => exact ts_fn1 hv hL hc b1 b2 b3 b4
  | [_, _], _, _, hv, hc => exact ts_fn2 hv hL hc b1 b2 b3 b4
  | [_, _, _], _, _, hv, hc => exact ts_fn3 hv hL hc b1 b2 b3 b4
  | [_, _, _, _], _, _, hv, hc => exact ts_fn4 hv hL hc b1 b2 b3 b4

/-! 'Turns' -/
structure TuF where
  ck : List Value → List Value → Int
  tr : List Value → Int → Int → List Value → List Value
  nw : List Value → Int → Int → List Value → List Value
noncomputable def spCpt (F : TuF) (f : FuncId) (args : Array Value) (h : AH) : Option (Bool × Value × AH) :=
  cond (Nat.beq f 9) (match args with
    | ⟨[.func (.yield 0) ⟨vs⟩ ⟨[]⟩, p]⟩ => match asFz p with
      | some ps => some (okI vs && okT ps, .int .i64 (F.ck vs ps), h)
      | none => none
    | _ => none) none
noncomputable def spTst (F : TuF) (e : Bool) (f : FuncId) (args : Array Value) (h : AH) : Option (Bool × Value × AH) :=
  cond (Nat.beq f 26) (match args with
    | ⟨[.func (.yield 0) ⟨vs⟩ ⟨[]⟩, .agg ⟨[.int .i64 rise, .int .i64 fall]⟩, .func (.yield 0) ⟨ps⟩ ⟨[]⟩, .int .i64 at_]⟩ =>
      some (okI vs && okT ps && decide (1 ≤ rise) && decide (rise ≤ 3) && decide (1 ≤ fall) && decide (fall ≤ 3) && decide (F.ck vs ps = 0) && decide (at_ = 345686400000) && (isE (F.tr vs rise fall ps) == e), .tuple ⟨[scD e (F.tr vs rise fall ps), fz ⟨F.nw vs rise fall ps⟩]⟩, h)
    | _ => none) none
noncomputable def STu (F : TuF) (e : Bool) : SC := ⟨idn, spOr spCi (spOr (spCpt F) (spTst F e)), true, true⟩
noncomputable def TU0 : TuF := ⟨ckV, trL, nwL⟩
theorem spCpt_eq : spCpt TU0 = spCp := rfl
theorem spTst_ok (e : Bool) : SpOK (spTst TU0 e) := by
  intro f args h v h' hs
  unfold spTst at hs
  obtain ⟨hf, hs2⟩ := cond_some hs
  clear hs
  have := Nat.eq_of_beq_eq_true hf
  subst this
  split at hs2
  · injection hs2 with hs
    injection hs with hb hs
    injection hs with hv hh
    subst hv hh
    simp only [Bool.and_eq_true, decide_eq_true_eq] at hb
    obtain ⟨⟨⟨⟨⟨⟨⟨⟨h1, h2⟩, h3⟩, h4⟩, h5⟩, h6⟩, h7⟩, h8⟩, h9⟩ := hb
    obtain ⟨L, hL, rfl⟩ := okT_iff.1 h2
    subst h8
    have h7 : ckV _ (L.map tV) = 0 := h7
    unfold ckV at h7
    rw [unT_map] at h7
    have h9 := beq_iff_eq.1 h9
    simp only [TU0] at h9
    have := ts_fn h1 hL (chk_ok h7) h3 h4 h5 h6
    rw [h9] at this
    exact ⟨FnOK.pure this rfl (by cases e <;> rfl) h, Nat.le_refl _⟩
  · cases hs2
theorem STu_ok (e : Bool) : (STu TU0 e).cfg.OK Tryz.prog := (spCi_ok.or (spCp_ok.or (spTst_ok e))).cfg
theorem tnt (F : TuF) (vs ps : List Value) (rise fall : Int) (Q : Value → Prop) : (ffn Tryz.prog (STu F true) [] 600 [] Tryz.f8 [fz ⟨vs⟩, .agg ⟨[.int .i64 rise, .int .i64 fall]⟩, fz ⟨ps⟩] h0 (fun v _ => Q v)) = bif okI vs then bif decide (rise < 1) then Q (Value.tuple { toList := [Value.slice none 0 0, Value.int IntKind.i64 1] }) else bif decide (rise > 100) then Q (Value.tuple { toList := [Value.slice none 0 0, Value.int IntKind.i64 1] }) else bif decide (fall < 1) then Q (Value.tuple { toList := [Value.slice none 0 0, Value.int IntKind.i64 1] }) else bif decide (fall > 100) then Q (Value.tuple { toList := [Value.slice none 0 0, Value.int IntKind.i64 1] }) else bif okI vs && okT ps then bif F.ck vs ps != 0 then Q (Value.tuple { toList := [Value.slice none 0 0, Value.int IntKind.i64 (F.ck vs ps)] }) else bif okI vs && okT ps && decide (1 ≤ rise) && decide (rise ≤ 3) && decide (1 ≤ fall) && decide (fall ≤ 3) && decide (F.ck vs ps = 0) && true && isE (F.tr vs rise fall ps) == true then Q (Value.tuple { toList := [Value.slice none 0 0, Value.int IntKind.i64 0] }) else False else False else False := by kernel_rfl

theorem tnf (F : TuF) (vs ps : List Value) (rise fall : Int) (Q : Value → Prop) : (ffn Tryz.prog (STu F false) [] 600 [] Tryz.f8 [fz ⟨vs⟩, .agg ⟨[.int .i64 rise, .int .i64 fall]⟩, fz ⟨ps⟩] h0 (fun v _ => Q v)) = bif okI vs then bif decide (rise < 1) then Q (Value.tuple { toList := [Value.slice none 0 0, Value.int IntKind.i64 1] }) else bif decide (rise > 100) then Q (Value.tuple { toList := [Value.slice none 0 0, Value.int IntKind.i64 1] }) else bif decide (fall < 1) then Q (Value.tuple { toList := [Value.slice none 0 0, Value.int IntKind.i64 1] }) else bif decide (fall > 100) then Q (Value.tuple { toList := [Value.slice none 0 0, Value.int IntKind.i64 1] }) else bif okI vs && okT ps then bif F.ck vs ps != 0 then Q (Value.tuple { toList := [Value.slice none 0 0, Value.int IntKind.i64 (F.ck vs ps)] }) else bif okI vs && okT ps && decide (1 ≤ rise) && decide (rise ≤ 3) && decide (1 ≤ fall) && decide (fall ≤ 3) && decide (F.ck vs ps = 0) && true && isE (F.tr vs rise fall ps) == false then Q (Value.tuple { toList := [Value.func (Fn.yield 0) { toList := F.tr vs rise fall ps } { toList := [] }, Value.int IntKind.i64 0] }) else False else False else False := by kernel_rfl

theorem someTU : Tryz.f8.body.isSome = true := by kernel_rfl
/-- The turns that are handed back. -/
noncomputable def trV (vs : List Value) (rise fall : Int) (ps : List Value) : List Value := if ckV vs ps = 0 then trL vs rise fall ps else []
theorem isE_nil : isE [] = true := isE_iff.2 rfl
theorem tu_fn {vs ps : List Value} (hv : okI vs = true) (hp : okT ps = true) {rise fall : Int} (b1 : 1 ≤ rise) (b2 : rise ≤ 3) (b3 : 1 ≤ fall) (b4 : fall ≤ 3) :
    FnOK 0 Tryz.prog 8 ⟨[fz ⟨vs⟩, .agg ⟨[.int .i64 rise, .int .i64 fall]⟩, fz ⟨ps⟩]⟩ h0 (fun v _ => v = .tuple ⟨[scD (isE (trV vs rise fall ps)) (trV vs rise fall ps), .int .i64 (ckV vs ps)]⟩) := by
  have hvp : (okI vs && okT ps) = true := by rw [hv, hp]; rfl
  by_cases q : ckV vs ps = 0
  · have e : trV vs rise fall ps = trL vs rise fall ps := by rw [trV, if_pos q]
    rw [e, q]
    cases he : isE (trL vs rise fall ps) with
    | true =>
      refine FnOK.ftree (STu_ok true) mixed Tryz.func8 someTU (tnt TU0 vs ps rise fall (fun v => v = .tuple ⟨[.slice none 0 0, .int .i64 0]⟩)) ?_
      refine need_mk hv (pick_f (decide_eq_false (by omega)) (pick_f (decide_eq_false (by omega)) (pick_f (decide_eq_false (by omega)) (pick_f (decide_eq_false (by omega)) (need_mk hvp (pick_f (by show (ckV vs ps != 0) = false; rw [q]; rfl) (need_mk ?_ rfl)))))))
      show (okI vs && okT ps && decide (1 ≤ rise) && decide (rise ≤ 3) && decide (1 ≤ fall) && decide (fall ≤ 3) && decide (ckV vs ps = 0) && true && (isE (trL vs rise fall ps) == true)) = true
      rw [hvp, he, q]; simp; omega
    | false =>
      refine FnOK.ftree (STu_ok false) mixed Tryz.func8 someTU (tnf TU0 vs ps rise fall (fun v => v = .tuple ⟨[fz ⟨trL vs rise fall ps⟩, .int .i64 0]⟩)) ?_
      refine need_mk hv (pick_f (decide_eq_false (by omega)) (pick_f (decide_eq_false (by omega)) (pick_f (decide_eq_false (by omega)) (pick_f (decide_eq_false (by omega)) (need_mk hvp (pick_f (by show (ckV vs ps != 0) = false; rw [q]; rfl) (need_mk ?_ rfl)))))))
      show (okI vs && okT ps && decide (1 ≤ rise) && decide (rise ≤ 3) && decide (1 ≤ fall) && decide (fall ≤ 3) && decide (ckV vs ps = 0) && true && (isE (trL vs rise fall ps) == false)) = true
      rw [hvp, he, q]; simp; omega
  · have e : trV vs rise fall ps = [] := by rw [trV, if_neg q]
    rw [e, isE_nil]
    refine FnOK.ftree (STu_ok true) mixed Tryz.func8 someTU (tnt TU0 vs ps rise fall (fun v => v = .tuple ⟨[.slice none 0 0, .int .i64 (ckV vs ps)]⟩)) ?_
    exact need_mk hv (pick_f (decide_eq_false (by omega)) (pick_f (decide_eq_false (by omega)) (pick_f (decide_eq_false (by omega)) (pick_f (decide_eq_false (by omega)) (need_mk hvp (pick_t (by show (ckV vs ps != 0) = true; exact bne_iff_ne.2 q) rfl))))))
end Go.Proofs.YtbeodpcdjlphkaaGreatDoor
