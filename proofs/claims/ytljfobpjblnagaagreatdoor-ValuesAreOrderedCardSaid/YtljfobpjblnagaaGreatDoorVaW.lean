/-
  Values as texts: writer.value writes the text.
-/
import Derived.Test.YtljfobpjblnagaaGreatDoorVaV
namespace Go.Ev
open Go.RowKit
/-- As FnOK.frame, where only the first names stay. -/
theorem FnOK.frameP {p : Nat} {P : Program} {f : FuncId} {big small : List Value} {r q : List (Nat × Nat)} {bl bl' : List (Nat × Obj)} {lw nx : Nat} {u v : Value} {H H' : AH}
    (hr : renOk r r.length = true) (ha : ren2s r big = some small)
    (hin : ∀ i o, look i bl = some o → ∃ a o2 same, (a, i) ∈ r ∧ H.get a = some o2 ∧ renO r same o2 = some o ∧ (same = true → NoNames o2))
    (hp : p ≤ r.length) (hF : FnOK p P f ⟨small⟩ ⟨r.length, r.length, bl⟩ (fun x g => x = u ∧ g = ⟨nx, lw, bl'⟩))
    (hq : renOk q H'.next = true)
    (hq1 : ∀ i a, (i, a) ∈ q → ((a, i) ∈ r ∧ i < p ∧ (H.get a).isSome = true) ∨ (H.next ≤ a ∧ (look i bl').isSome = true))
    (hv : ren2 q u = some v)
    (hback : ∀ a o2, H'.get a = some o2 → (H.get a = some o2 ∧ ∀ i, (a, i) ∉ r) ∨ ∃ i o same, (i, a) ∈ q ∧ look i bl' = some o ∧ renO q same o = some o2 ∧ (same = true → NoNames o))
    (hids0 : (∀ a o, H.get a = some o → a < H.next) → ∀ a o, H'.get a = some o → a < H'.next) (hnxt : H.next ≤ H'.next) (hlow : H'.low ≤ H.low) (hold : ∀ i, i < H.next → i < H'.low → H'.get i = H.get i) :
    CallOK P f ⟨big⟩ H v H' := by
  intro N w args' hargs hH hfr
  have hids := hids0 hH.ids
  have hname : ∀ i o, look i bl = some o → ∃ a e o2 same, (a, i) ∈ r ∧ H.get a = some o2 ∧ renO r same o2 = some o ∧ (same = true → NoNames o2) ∧ (N.ren r) i = some e ∧ N a = some e ∧ i < r.length := by
    intro i o ho
    obtain ⟨a, o2, same, h1, h2, h3, h4⟩ := hin i o ho
    obtain ⟨e, o', k1, k2, k3⟩ := hH.here a o2 h2
    obtain ⟨q4, q5, q6⟩ := renOk_mem hr h1
    exact ⟨a, e, o2, same, h1, h2, h3, h4, by rw [ren_name hr q4]; exact k1, k1, q6⟩
  have hsmall : HRel P (N.ren r) ⟨r.length, r.length, bl⟩ w := by
    refine ⟨fun i o hi => ?_, fun i j o p e f hi hj he hf hef => ?_, fun i o hi => ?_, fun b c hbc => ⟨(hH.froz b c hbc).1, fun i o e hi he => ?_⟩, fun b c q => hH.req b c q⟩
    · obtain ⟨a, e, o2, same, h1, h2, h3, h4, h5, h6, _⟩ := hname i o hi
      obtain ⟨e', o', k1, k2, k3⟩ := hH.here a o2 h2
      rw [h6] at k1
      cases k1
      exact ⟨e, o', h5, k2, renO_rel hr h3 h4 k3⟩
    · obtain ⟨a, e1, o2, same, h1, h2, h3, h4, h5, h6, _⟩ := hname i o hi
      obtain ⟨a', e2, o2', same', h1', h2', h3', h4', h5', h6', _⟩ := hname j p hj
      rw [h5] at he; cases he
      rw [h5'] at hf; cases hf
      have := hH.inj a a' o2 o2' _ _ h2 h2' h6 h6' hef
      subst this
      have x1 := (renOk_mem hr h1).1
      have x2 := (renOk_mem hr h1').1
      rw [x1] at x2
      exact Option.some.inj x2
    · obtain ⟨a, e1, o2, same, h1, h2, h3, h4, h5, h6, h7⟩ := hname i o hi
      exact h7
    · obtain ⟨a, e1, o2, same, h1, h2, h3, h4, h5, h6, _⟩ := hname i o hi
      rw [h5] at he; cases he
      exact (hH.froz b c hbc).2 a o2 e h2 h6
  have hfresh : FreshAll p (N.ren r) ⟨r.length, r.length, bl⟩ := by
    refine ⟨hp, fun i hi => ?_⟩
    show (invB r i).bind N.m = none
    cases hx : invB r i with
    | none => rfl
    | some a =>
      have := (renOk_mem hr (invB_mem hx)).2.2
      simp only at hi
      omega
  refine (hF (N.ren r) w args' (ren2s_rel hr ha hargs) hsmall hfresh).mono ?_
  rintro en w' ⟨u', g, N1, v', ⟨rfl, rfl⟩, rfl, hv', hr', _, hx⟩
  have hown : ∀ k, Owned (N.ren r) ⟨r.length, r.length, bl⟩ k → ∃ a o e i, H.get a = some o ∧ N a = some e ∧ e.r = k ∧ (a, i) ∈ r := by
    rintro k ⟨i, o, e, hi, he, rfl⟩
    obtain ⟨a, e1, o2, same, h1, h2, h3, h4, h5, h6, _⟩ := hname i o hi
    rw [h5] at he; cases he
    exact ⟨a, o2, e, i, h2, h6, rfl, h1⟩
  -- a block that is not handed in
  have hout : ∀ a o e, H.get a = some o → N a = some e → (∀ i, (a, i) ∉ r) → ¬ Owned (N.ren r) ⟨r.length, r.length, bl⟩ e.r := by
    intro a o e h1 h2 h3 h4
    obtain ⟨a', o', e', i, k1, k2, k3, k4⟩ := hown _ h4
    have := hH.inj a a' o o' e e' h1 k1 h2 k2 k3.symm
    subst this
    exact h3 i k4
  have hFF : ∀ b c, N.F b = some c → N1.F b = some c := hx.leF
  let L : Emb := ⟨fun a => if H.next ≤ a ∧ a < H'.next then (N1.ren q) a else N a, N1.F⟩
  have hL : ∀ a, L a = if H.next ≤ a ∧ a < H'.next then (N1.ren q) a else N a := fun _ => rfl
  have hle : Emb.le N L := ⟨fun a e h => by
    rw [hL, if_neg]
    · exact h
    · rintro ⟨h1, h2⟩
      rw [hfr a h1 h2] at h
      exact (by cases h), hFF⟩
  have hqN : ∀ i a e, (i, a) ∈ q → N1 i = some e → L a = some e := by
    intro i a e h1 h2
    obtain ⟨x1, x2, x3⟩ := renOk_mem hq h1
    rcases hq1 i a h1 with ⟨h3, y4, _⟩ | ⟨h3, _⟩
    · obtain ⟨y1, y2, y3⟩ := renOk_mem hr h3
      rw [hx.pins i y4, ren_name hr y1] at h2
      exact hle a e h2
    · rw [hL, if_pos ⟨h3, x3⟩, ren_name hq x1]
      exact h2
  have hle1 : Emb.le (N1.ren q) L := ⟨fun a e h => by
    have h : (invB q a).bind N1.m = some e := h
    obtain ⟨i, h1, h2⟩ := Option.bind_eq_some_iff.1 h
    exact hqN i a e (invB_mem h1) h2, fun _ _ x => x⟩
  have hnewF : ∀ k c, N1.F k = some c → N.F k = none → w.heap.size ≤ k ∨ Owned (N.ren r) ⟨r.length, r.length, bl⟩ k := fun k c q1 q2 => hx.newF k c q1 q2
  -- what lies in the heap then
  have hcase : ∀ a o2 e, H'.get a = some o2 → L a = some e → (H.get a = some o2 ∧ N a = some e ∧ (∀ i, (a, i) ∉ r) ∧ e.r < w.heap.size) ∨ ∃ i o, (i, a) ∈ q ∧ look i bl' = some o ∧ N1 i = some e := by
    intro a o2 e h1 h2
    rcases hback a o2 h1 with ⟨h3, h4⟩ | ⟨i, o, same, h3, h4, h5, h6⟩
    · obtain ⟨e', o', k1, k2, k3⟩ := hH.here a o2 h3
      have := hle a e' k1
      rw [h2] at this
      cases this
      exact .inl ⟨h3, k1, h4, lt_of_some k2⟩
    · obtain ⟨e', o', k1, k2, k3⟩ := hr'.here i o h4
      have := hqN i a e' h3 k1
      rw [h2] at this
      cases this
      exact .inr ⟨i, o, h3, h4, k1⟩
  have hmix : ∀ a o2 e i o e', H.get a = some o2 → N a = some e → (∀ i, (a, i) ∉ r) → e.r < w.heap.size → look i bl' = some o → N1 i = some e' → e.r ≠ e'.r := by
    intro a o2 e i o e' h1 h2 h3 h4 h5 h6 h7
    rcases hx.own e'.r ⟨i, o, e', h5, h6, rfl⟩ with x | x
    · omega
    · rw [← h7] at x
      exact hout a o2 e h1 h2 h3 x
  refine ⟨L, v', rfl, (ren2_rel hq hv hv').mono hle1, ?_⟩
  exact {
    le := hle
    new := fun a e h1 h2 => by
      rw [hL] at h1
      split at h1
      · rename_i hc
        have h1 : (invB q a).bind N1.m = some e := h1
        obtain ⟨i, k1, k2⟩ := Option.bind_eq_some_iff.1 h1
        refine ⟨hc.1, hc.2, ?_⟩
        rcases hq1 i a (invB_mem k1) with ⟨h3, y4, h4⟩ | ⟨h3, h4⟩
        · obtain ⟨y1, y2, y3⟩ := renOk_mem hr h3
          have k2 : N1 i = some e := k2
          rw [hx.pins i y4, ren_name hr y1, h2] at k2
          cases k2
        · obtain ⟨o, ho⟩ := Option.isSome_iff_exists.1 h4
          rcases hx.own e.r ⟨i, o, e, ho, k2, rfl⟩ with x | x
          · exact .inl x
          · obtain ⟨a', o', e', i', z1, z2, z3, z4⟩ := hown _ x
            exact .inr ⟨a', o', e', z1, z2, z3⟩
      · rw [h1] at h2; cases h2
    newF := fun k c q1 q2 => by
      rcases hnewF k c q1 q2 with x | x
      · exact .inl x
      · obtain ⟨a', o', e', i', z1, z2, z3, z4⟩ := hown _ x
        exact .inr ⟨a', o', e', z1, z2, z3⟩
    rel := ⟨fun a o2 h1 => by
        rcases hback a o2 h1 with ⟨h3, h4⟩ | ⟨i, o, same, h3, h4, h5, h6⟩
        · obtain ⟨e', o', k1, k2, k3⟩ := hH.here a o2 h3
          exact ⟨e', o', hle a e' k1, by rw [hx.keep _ (lt_of_some k2) (hout a o2 e' h3 k1 h4)]; exact k2, k3.mono hle⟩
        · obtain ⟨e', o', k1, k2, k3⟩ := hr'.here i o h4
          exact ⟨e', o', hqN i a e' h3 k1, k2, (renO_rel hq h5 h6 k3).mono hle1⟩,
      fun a b o p e f h1 h2 h3 h4 h5 => by
        rcases hcase a o e h1 h3 with ⟨x1, x2, x3, x4⟩ | ⟨i, o1, x1, x2, x3⟩
        · rcases hcase b p f h2 h4 with ⟨y1, y2, y3, y4⟩ | ⟨j, o2, y1, y2, y3⟩
          · exact hH.inj a b o p e f x1 y1 x2 y2 h5
          · exact (hmix a o e j o2 f x1 x2 x3 x4 y2 y3 h5).elim
        · rcases hcase b p f h2 h4 with ⟨y1, y2, y3, y4⟩ | ⟨j, o2, y1, y2, y3⟩
          · exact (hmix b p f i o1 e y1 y2 y3 y4 x2 x3 h5.symm).elim
          · have := hr'.inj i j o1 o2 e f x2 y2 x3 y3 h5
            subst this
            have z1 := (renOk_mem hq x1).1
            have z2 := (renOk_mem hq y1).1
            rw [z1] at z2
            exact Option.some.inj z2,
      hids, fun k c h1 => ⟨(hr'.froz k c h1).1, fun a o e h2 h3 => by
        rcases hcase a o e h2 h3 with ⟨x1, x2, x3, x4⟩ | ⟨i, o1, x1, x2, x3⟩
        · cases hk : N.F k with
          | some d => exact (hH.froz k d hk).2 a o e x1 x2
          | none =>
            intro hek
            rcases hnewF k c h1 hk with z | z
            · omega
            · rw [← hek] at z
              exact hout a o e x1 x2 x3 z
        · exact (hr'.froz k c h1).2 i o1 e x2 x3⟩, fun k c z => hr'.req k c z⟩
    size := hx.size
    keep := fun k hk hno => hx.keep k hk (fun z => by
      obtain ⟨a, o, e, i, h1, h2, h3, _⟩ := hown k z
      exact hno a o e h1 h2 h3)
    tape := hx.tape
    os := hx.os
    output := hx.output
    alive := fun a o2 h1 => by
      rcases hback a o2 h1 with ⟨h3, h4⟩ | ⟨i, o, same, h3, h4, h5, h6⟩
      · exact .inl ⟨o2, h3⟩
      · rcases hq1 i a h3 with ⟨h7, _, h8⟩ | ⟨h7, h8⟩
        · exact .inl (Option.isSome_iff_exists.1 h8)
        · exact .inr ⟨h7, hids a o2 h1⟩
    nxt := hnxt
    low := hlow
    old := hold }


end Go.Ev
namespace Go.Proofs.YtljfobpjblnagaaGreatDoor
open Go.Ev Go.RowKit

/-- What a value owes whose text this is: behind other text; as the first. -/
def WvB (x : Value) (t : List Value) : Prop := t.all p1 = true ∧ pr x = true ∧ ∀ (cs : List Value) (n : Nat), cs.length = n → cs.all p1 = true → n + t.length ≤ 200000 →
  FnOK 1 Tryz.prog 31 ⟨[p0V, x]⟩ (wH cs n) (fun v g => v = .tuple ⟨[]⟩ ∧ wrN (g.get 0) = some (p0V, n + t.length, n + t.length) ∧ g.get (wrB (g.get 0)) = some (.cells ⟨cs ++ t⟩ 5 (0, 0)))
def tyO : Obj → Nat
  | .cells _ t _ => t
  | _ => 0
theorem wr_shape {o : Option Obj} {n : Nat} (h : wrN o = some (p0V, n, n)) : o = some (wO (wrB o) n) := by
  unfold wrN at h
  split at h
  · simp only [Option.some.injEq, Prod.mk.injEq] at h
    obtain ⟨rfl, rfl, h3⟩ := h
    subst h3
    rfl
  · cases h
theorem nn_all {cs : List Value} {t : TypeId} (h : cs.all p1 = true) : NoNames (.cells ⟨cs⟩ t (0, 0)) := fun v hv => List.all_eq_true.1 h v (by simpa using hv)
theorem wv_call {x : Value} {t cs : List Value} {n b c : Nat} {H : AH} (hW : WvB x t) (hl : cs.length = n) (hcs : cs.all p1 = true) (hn : n + t.length ≤ 200000) (hbc : b ≠ c) (hb : H.get b = some (.cells ⟨[.pointer (some ⟨b, 0, none⟩), .slice (some ⟨c, 0, none⟩) n n]⟩ 88 (0, 0)))
    (hc : H.get c = some (.cells ⟨cs⟩ 5 (0, 0))) (hlb : b < H.next) (hlc : c < H.next) :
    CallOK Tryz.prog 31 ⟨[.pointer (some ⟨b, 0, none⟩), x]⟩ H (.tuple ⟨[]⟩) (((H.del c).set b (.cells ⟨[.pointer (some ⟨b, 0, none⟩), .slice (some ⟨H.next, 0, none⟩) (n + t.length) (n + t.length)]⟩ 88 (0, 0))).push (.cells ⟨cs ++ t⟩ 5 (0, 0))) := by
  obtain ⟨ht, hx, hF0⟩ := hW
  have hF := hF0 cs n hl hcs hn
  have hall : (cs ++ t).all p1 = true := by rw [List.all_append, hcs, ht]; rfl
  have hdn : (H.del c).next = H.next := rfl
  have hdb : (H.del c).get b = some (.cells ⟨[.pointer (some ⟨b, 0, none⟩), .slice (some ⟨c, 0, none⟩) n n]⟩ 88 (0, 0)) := (del_ne hbc).trans hb
  have hcb : Nat.beq c b = false := by
    cases q : Nat.beq c b with
    | false => rfl
    | true => exact (hbc (Nat.eq_of_beq_eq_true q).symm).elim
  have hbcf : Nat.beq b c = false := by
    cases q : Nat.beq b c with
    | false => rfl
    | true => exact (hbc (Nat.eq_of_beq_eq_true q)).elim
  have hset : ((H.del c).set b (.cells ⟨[.pointer (some ⟨b, 0, none⟩), .slice (some ⟨H.next, 0, none⟩) (n + t.length) (n + t.length)]⟩ 88 (0, 0))).get b = some (.cells ⟨[.pointer (some ⟨b, 0, none⟩), .slice (some ⟨H.next, 0, none⟩) (n + t.length) (n + t.length)]⟩ 88 (0, 0)) := look_setB_self hdb
  have hsne : ∀ a, a ≠ b → ((H.del c).set b (.cells ⟨[.pointer (some ⟨b, 0, none⟩), .slice (some ⟨H.next, 0, none⟩) (n + t.length) (n + t.length)]⟩ 88 (0, 0))).get a = (H.del c).get a := fun a ha => look_setB_ne ha _ _
  have hdc : (H.del c).get c = none := look_delB_self H.blocks
  have hpx : ∀ r, ren2 r x = some x := fun r => ren2_plain hx
  have z01 : Nat.beq 0 1 = false := rfl
  have z02 : Nat.beq 0 2 = false := rfl
  have z10 : Nat.beq 1 0 = false := rfl
  have z20 : Nat.beq 2 0 = false := rfl
  have hpp : ren2 [(b, 0), (c, 1)] (.pointer (some ⟨b, 0, none⟩)) = some p0V := by simp [ren2, ren1, ren0, renB, p0V]
  refine FnOK.frameP (p := 1) (r := [(b, 0), (c, 1)]) (q := [(0, b), (2, H.next)]) (bl := (wH cs n).blocks) (bl' := [(0, wO 2 (n + t.length)), (2, .cells ⟨cs ++ t⟩ 5 (0, 0))]) (nx := 3) (lw := 3) (u := .tuple ⟨[]⟩) (small := [p0V, x])
    ?_ ?_ ?_ (Nat.le_succ 1) ?_ ?_ ?_ rfl ?_ ?_ (Nat.le_succ _) ?_ ?_
  · simp [renOk, renB, invB, eqO, hcb, hbcf, z01, z10]
  · simp only [ren2s, hpp, hpx]
  · intro i o ho
    match i, ho with
    | 0, ho =>
      cases ho
      exact ⟨b, _, false, by simp, hb, by simp [renO, renL, ren1, ren0, renB, hbcf, hcb, wO, p0V], fun h => by cases h⟩
    | 1, ho =>
      cases ho
      exact ⟨c, _, true, by simp, hc, rfl, fun _ => nn_all hcs⟩
    | i + 2, ho => cases ho
  · refine FnOK.weak1 (hF.mono ?_)
    rintro v g ⟨rfl, h1, h2⟩
    have h1 := wr_shape h1
    generalize hk : wrB (g.get 0) = k at h1 h2
    have hk0 : k ≠ 0 := fun e => by
      rw [e] at h2
      rw [h1] at h2
      have h3 : (88 : Nat) = 5 := congrArg tyO (Option.some.inj h2)
      exact absurd h3 (by decide)
    have hk0' : Nat.beq 0 k = false := by
      cases q : Nat.beq 0 k with
      | false => rfl
      | true => exact (hk0 (Nat.eq_of_beq_eq_true q).symm).elim
    have hk0'' : Nat.beq k 0 = false := by
      cases q : Nat.beq k 0 with
      | false => rfl
      | true => exact (hk0 (Nat.eq_of_beq_eq_true q)).elim
    refine ⟨_, _, Weak.norm [true] [(0, 0), (k, 2)] [k] 3 ?_ ?_ rfl (bl := [(0, wO 2 (n + t.length)), (2, .cells ⟨cs ++ t⟩ 5 (0, 0))]) ?_ ?_, rfl, rfl⟩
    · simp [renOk, renB, invB, eqO, hk0', hk0'', z02, z20]
    · simp [renB, eqO]
    · simp [renH, h1, h2, renO, renL, ren1, ren0, renB, wO, p0V, hk0', hk0'', hk0, Ne.symm hk0]
    · intro a ha o ho
      simp only [List.mem_singleton] at ha
      subst ha
      rw [h2] at ho
      cases ho
      exact nn_all hall
  · have hnx : (((H.del c).set b (.cells ⟨[.pointer (some ⟨b, 0, none⟩), .slice (some ⟨H.next, 0, none⟩) (n + t.length) (n + t.length)]⟩ 88 (0, 0))).push (.cells ⟨cs ++ t⟩ 5 (0, 0))).next = H.next + 1 := rfl
    have e1 : Nat.beq H.next b = false := by
      cases q : Nat.beq H.next b with
      | false => rfl
      | true => have := Nat.eq_of_beq_eq_true q; omega
    have e2 : Nat.beq b H.next = false := by
      cases q : Nat.beq b H.next with
      | false => rfl
      | true => have := Nat.eq_of_beq_eq_true q; omega
    have e3 : Nat.blt b (H.next + 1) = true := by rw [Nat.blt, Nat.ble_eq]; omega
    have e4 : Nat.blt H.next (H.next + 1) = true := by rw [Nat.blt, Nat.ble_eq]; omega
    rw [hnx]
    simp [renOk, renB, invB, eqO, e1, e2, e3, e4, z02, z20]
  · intro i a ha
    simp only [List.mem_cons, Prod.mk.injEq, List.not_mem_nil, or_false] at ha
    rcases ha with ⟨rfl, rfl⟩ | ⟨rfl, rfl⟩
    · exact .inl ⟨by simp, by decide, by rw [hb]; rfl⟩
    · exact .inr ⟨Nat.le_refl _, rfl⟩
  · intro a o2 ha
    rw [look_push] at ha
    split at ha
    · rename_i hn
      cases ha
      refine .inr ⟨2, _, true, ?_, rfl, rfl, fun _ => nn_all hall⟩
      rw [← hn]
      exact .tail _ (.head _)
    · by_cases hab : a = b
      · subst hab
        rw [hset] at ha
        cases ha
        have e1 : Nat.beq 2 0 = false := rfl
        exact .inr ⟨0, _, false, by simp, rfl, by simp [renO, renL, ren1, ren0, renB, wO, p0V, z02], fun h => by cases h⟩
      · rw [hsne a hab] at ha
        by_cases hac : a = c
        · subst hac
          rw [hdc] at ha
          cases ha
        · rw [del_ne hac] at ha
          refine .inl ⟨ha, fun i hi => ?_⟩
          simp only [List.mem_cons, Prod.mk.injEq, List.not_mem_nil, or_false] at hi
          rcases hi with ⟨q, _⟩ | ⟨q, _⟩
          · exact hab q
          · exact hac q
  · intro hids a o2 ha
    rw [look_push] at ha
    show a < H.next + 1
    split at ha
    · rename_i hn
      have hn : a = H.next := hn.symm
      omega
    · by_cases hab : a = b
      · omega
      · rw [hsne a hab] at ha
        by_cases hac : a = c
        · omega
        · rw [del_ne hac] at ha
          have := hids a o2 ha
          omega
  · show min (min H.low c) b ≤ H.low
    omega
  · intro i hi hlow
    have hlow : i < min (min H.low c) b := hlow
    rw [look_push, if_neg (by show ¬ _ = _; intro q; have : H.next = i := q; omega), hsne i (by omega), del_ne (by omega)]
theorem spWv_ok {ok : Bool} {x : Value} {t : List Value} (hW : ok = true → WvB x t) : SpOK (spWv ok x t) := by
  intro f args h v h' hs
  unfold spWv at hs
  obtain ⟨hf, hs2⟩ := cond_some hs
  clear hs
  have := Nat.eq_of_beq_eq_true hf
  subst this
  split at hs2
  · rename_i b y
    split at hs2
    · rename_i b2 c n m t1 hg
      split at hs2
      · rename_i cs t2 hg2
        injection hs2 with hs
        injection hs with hb hs
        injection hs with hv hh
        subst hv hh
        simp only [Bool.and_eq_true, Bool.not_eq_true'] at hb
        obtain ⟨⟨⟨⟨⟨⟨⟨b1, b2'⟩, b3⟩, ⟨⟨⟨⟨b4, b5⟩, b6⟩, b7⟩, b8⟩, b9⟩, b10⟩, b11⟩, b12⟩, b13⟩ := hb
        have b2' := eqV_eq b2'
        have b3 := Nat.eq_of_beq_eq_true b3
        have b4 := Nat.eq_of_beq_eq_true b4
        have b5 := Nat.eq_of_beq_eq_true b5
        have b6 := Nat.eq_of_beq_eq_true b6
        have b10 := Nat.eq_of_beq_eq_true b10
        have b11 := Nat.le_of_ble_eq_true b11
        subst b2' b3 b4 b5 b6
        have hne : b2 ≠ c := fun q => by rw [q, Nat.beq_refl] at b7; cases b7
        exact ⟨wv_call (hW b1) b10 b12 b11 hne hg hg2 (Nat.le_of_ble_eq_true b8) (Nat.le_of_ble_eq_true b9), Nat.le_succ _⟩
      · cases hs2
    · cases hs2
  · cases hs2
end Go.Proofs.YtljfobpjblnagaaGreatDoor
