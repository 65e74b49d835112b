/-
  Tokens stay: told calls; rows that are handed back; contracts for frozen lists at rows.
-/
import Derived.Test.YtklednomnpghcaaGreatDoorBase
namespace Go.Ev
open Go.RowKit

/-- All memory, frozen as it is. -/
def frozenAll (w : World) : Emb := ⟨fun _ => none, fun k => match w.heap[k]? with
  | some (.cells c _ _) => some c
  | _ => none⟩
theorem froz_at {w : World} {k : Nat} {c : Array Value} {t : TypeId} {fr : Nat × Nat} (h : w.heap[k]? = some (.cells c t fr)) : (frozenAll w).F k = some c := by
  show (match w.heap[k]? with | some (.cells c _ _) => some c | _ => none) = _
  rw [h]
theorem froz_ex {w : World} {k : Nat} {c : Array Value} (h : (frozenAll w).F k = some c) : ∃ t fr, w.heap[k]? = some (.cells c t fr) := by
  have h : (match w.heap[k]? with | some (.cells c _ _) => some c | _ => none) = some c := h
  split at h
  · rename_i d t fr hw
    cases h
    exact ⟨t, fr, hw⟩
  · cases h
theorem froz_le {P : Program} {N : Emb} {h : AH} {w : World} (hr : HRel P N h w) : ∀ b c, N.F b = some c → (frozenAll w).F b = some c := fun b c q => by
  obtain ⟨t, fr, hw⟩ := (hr.froz b c q).1
  exact froz_at hw
/-- A function that reads frozen arguments, and hands back no more than a flat value: its contract at arguments that are not frozen. -/
theorem FnOK.thaw {P : Program} {f : FuncId} {args fargs : Array Value} {r : Value} (hF : FnOK 0 P f fargs h0 (fun u _ => u = r)) (hv : flatV r = true) {H : AH}
    (hA : ∀ N w args', CRel N args args' → HRel P N H w → CRel (frozenAll w) fargs args') : CallOK P f args H r H := by
  intro N w args' hargs hr _
  refine (hF (frozenAll w) w args' (hA N w args' hargs hr) ?_ ⟨Nat.zero_le _, fun _ _ => rfl⟩).mono ?_
  · exact ⟨fun i o q => (by rw [get_h0] at q; cases q), fun i j o q e f x => (by rw [get_h0] at x; cases x), fun i o q => (by rw [get_h0] at q; cases q),
      fun b c q => ⟨froz_ex q, fun i o e x => (by rw [get_h0] at x; cases x)⟩, hr.req.le (froz_le hr)⟩
  · rintro e w' ⟨u, h', N1, v', rfl, rfl, hv', hr', _, hx⟩
    have hno : ∀ b, ¬ Owned (frozenAll w) h0 b := fun b => by rintro ⟨i, o, e, q, _⟩; rw [get_h0] at q; cases q
    have hkeep : ∀ b, b < w.heap.size → w'.heap[b]? = w.heap[b]? := fun b hb => hx.keep b hb (hno b)
    have hvv := flatV_rel hv hv'
    subst hvv
    refine ⟨N, _, rfl, flatV_self hv, ?_⟩
    exact {
      le := Emb.le_refl N
      new := fun i e a b => by rw [a] at b; cases b
      newF := fun b c q1 q2 => by rw [q1] at q2; cases q2
      rel := ⟨fun i o hi => by
          obtain ⟨e, o', k1, k2, k3⟩ := hr.here i o hi
          exact ⟨e, o', k1, by rw [hkeep _ (lt_of_some k2)]; exact k2, k3⟩, hr.inj, hr.ids, fun b c q => ⟨by
          obtain ⟨t, fr, hw⟩ := (hr.froz b c q).1
          exact ⟨t, fr, by rw [hkeep _ (lt_of_some hw)]; exact hw⟩, (hr.froz b c q).2⟩, hr.req⟩
      size := hx.size
      keep := fun b hb _ => hkeep b hb
      tape := hx.tape
      os := hx.os
      output := hx.output
      alive := fun i o hi => .inl ⟨o, hi⟩
      nxt := Nat.le_refl _
      low := Nat.le_refl _
      old := fun _ _ _ => rfl }
/-- A row of strings. -/
def strV? : Value → Bool
  | .string _ => true
  | _ => false
theorem row_fz {P : Program} {N : Emb} {w : World} {H : AH} {b n c : Nat} {cs : List Value} {t : TypeId} {fr : Nat × Nat} {v' : Value} (hr : HRel P N H w) (hb : H.get b = some (.cells ⟨cs⟩ t fr)) (hs : cs.all strV? = true) (hn : n ≤ cs.length) (hc : n ≤ c)
    (hv : VRel N (.slice (some ⟨b, 0, none⟩) n c) v') : VRel (frozenAll w) (fz ⟨cs.take n⟩) v' := by
  obtain ⟨e, o1, c1, _, he, hcc, hzz, hoo, rfl⟩ := hv.inv_slice
  simp only at he hoo
  obtain ⟨e2, o', k1, k2, k3⟩ := hr.here b _ hb
  rw [he] at k1
  cases k1
  obtain ⟨c', fr', rfl, hc2, hc3, hc4, hc5, hc6, hc7⟩ := k3
  have hlen : (Array.mk (cs.take n)).size = n := by simp; omega
  rcases Nat.eq_zero_or_pos n with h0 | h0
  · subst h0
    have : cs.take 0 = [] := rfl
    rw [this]
    exact .fz0 _ _
  · have ho1 : o1 = e.d := by rcases hoo with ⟨q1, _⟩ | q1 <;> omega
    have hsz : (Array.mk cs).size = cs.length := rfl
    rw [ho1]
    have key : VRel (frozenAll w) (fz ⟨cs.take n⟩) (.slice (some ⟨e.r, e.d, none⟩) (Array.mk (cs.take n)).size c1) := by
      refine .fz ⟨cs.take n⟩ 1 e.r e.d c1 c' (froz_at k2) (by rw [hlen]; omega) (by rw [hlen]; omega) ?_ ?_
      · intro i x hx
        have hx : (cs.take n)[i]? = some x := by simpa using hx
        have hm := List.mem_of_mem_take (List.mem_of_getElem? hx)
        have := List.all_eq_true.1 hs x hm
        cases x <;> first | rfl | cases this
      · intro i j x v v' hx hj hv'
        have hx : (cs.take n)[i]? = some x := by simpa using hx
        have hi : cs[i]? = some x := by
          rw [List.getElem?_take] at hx
          split at hx
          · exact hx
          · cases hx
        have hm := List.mem_of_getElem? hi
        have hq := List.all_eq_true.1 hs x hm
        obtain ⟨u, hu1, hu2⟩ := hc6 i x (by simpa using hi)
        cases x with
        | string s =>
          match j, hj with
          | 0, hj =>
            have : Value.string s = v := by simpa [Value.cells] using hj
            subst this
            have e3 : e.d + i * 1 + 0 = e.d + i := by omega
            rw [e3, hu1] at hv'
            cases hv'
            rw [hu2.inv_string]
            exact .string s
          | j + 1, hj => simp [Value.cells] at hj
        | _ => cases hq
    rw [hlen] at key
    exact key
/-- A value as it reads where all is frozen. -/
def thV (h : AH) (v : Value) : Value := match v with
  | .slice (some ⟨b, 0, none⟩) n _ => match h.get b with
    | some (.cells ⟨cs⟩ _ _) => fz ⟨cs.take n⟩
    | _ => v
  | _ => v
def thOK (h : AH) (v : Value) : Bool := match v with
  | .slice (some ⟨b, 0, none⟩) n c => match h.get b with
    | some (.cells ⟨cs⟩ _ _) => cs.all strV? && Nat.ble n cs.length && Nat.ble n c
    | _ => false
  | v => p1 v
theorem th_rel {P : Program} {N : Emb} {w : World} {H : AH} {v v' : Value} (hr : HRel P N H w) (h : thOK H v = true) (hv : VRel N v v') : VRel (frozenAll w) (thV H v) v' := by
  unfold thOK at h
  split at h
  · rename_i b n c
    split at h
    · rename_i cs t fr hb
      simp only [Bool.and_eq_true, Nat.ble_eq] at h
      obtain ⟨⟨h1, h2⟩, h3⟩ := h
      unfold thV
      simp only [hb]
      exact row_fz hr hb h1 h2 h3 hv
    · cases h
  · rename_i hne
    have : thV H v = v := by
      unfold thV
      split
      · exact absurd rfl (hne _ _ _)
      · rfl
    rw [this]
    exact p1_rel (N := N) (M := frozenAll w) (froz_le hr) h hv
theorem th_agg {P : Program} {N : Emb} {w : World} {H : AH} {cs : List Value} {v' : Value} (hr : HRel P N H w) (h : cs.all (thOK H) = true) (hv : VRel N (.agg ⟨cs⟩) v') : VRel (frozenAll w) (.agg ⟨cs.map (thV H)⟩) v' := by
  generalize hq : Value.agg ⟨cs⟩ = q at hv
  cases hv with
  | agg c c' hs hx =>
    cases hq
    refine .agg _ _ (by simpa using hs) fun i v v' a b => ?_
    have a : (cs.map (thV H))[i]? = some v := by simpa using a
    rw [List.getElem?_map] at a
    obtain ⟨u, hu, rfl⟩ := Option.map_eq_some_iff.1 a
    exact th_rel hr (List.all_eq_true.1 h u (List.mem_of_getElem? hu)) (hx i u v' (by simpa using hu) b)
  | _ => cases hq
end Go.Ev
namespace Go.Proofs.YtklednomnpghcaaGreatDoor
open Go.Ev Go.RowKit

/-! told calls -/
open Classical in
noncomputable def tq (a b : List Value) : Bool := @decide (a = b) (Classical.propDecidable _)
open Classical in
theorem tq_eq {a b : List Value} (h : a = b) : tq a b = true := by unfold tq; exact @decide_eq_true _ (Classical.propDecidable _) h
open Classical in
theorem tq_iff {a b : List Value} (h : tq a b = true) : a = b := by unfold tq at h; exact @of_decide_eq_true _ (Classical.propDecidable _) h
noncomputable def spT (n : FuncId) (xs : List Value) (r : Value) (f : FuncId) (args : Array Value) (h : AH) : Option (Bool × Value × AH) :=
  cond (Nat.beq f n) (some (tq args.toList xs, r, h)) none
theorem spT_ok {n : FuncId} {xs : List Value} {r : Value} (hF : FnOK 0 Tryz.prog n ⟨xs⟩ h0 (fun v _ => v = r)) (ha : xs.all p2 = true) (hr : p3 r = true) : SpOK (spT n xs r) := by
  intro f args h v h' hs
  unfold spT at hs
  obtain ⟨hf, hs2⟩ := cond_some hs
  clear hs
  have := Nat.eq_of_beq_eq_true hf
  subst this
  injection hs2 with hs
  injection hs with hb hs
  injection hs with hv hh
  subst hv hh
  obtain ⟨l⟩ := args
  have e : l = xs := tq_iff hb
  subst e
  exact ⟨FnOK.pure hF ha hr h, Nat.le_refl _⟩
noncomputable def tqT (a : List Value) (X : Prop) : Prop := bif tq a a then X else False
theorem tqT_mk {a : List Value} {X : Prop} (hX : X) : tqT a X := need_mk (tq_eq rfl) hX
noncomputable def tqU (x y : List Value) (X : Prop) : Prop := bif tq x y then X else False
theorem tqU_mk {x y : List Value} (h : x = y) {X : Prop} (hX : X) : tqU x y X := need_mk (tq_eq h) hX
/-! told calls that hand back a row of their own -/
noncomputable def spR (n : FuncId) (xs : List Value) (g : Nat → Value) (cs : List Value) (t : TypeId) (f : FuncId) (args : Array Value) (h : AH) : Option (Bool × Value × AH) :=
  cond (Nat.beq f n) (some (tq args.toList xs, g h.next, h.push (.cells ⟨cs⟩ t (0, 0)))) none
/-- What such a call hands back. -/
def RowOK (n : FuncId) (xs : List Value) (g : Nat → Value) (cs : List Value) (t : TypeId) : Prop := FnOK 0 Tryz.prog n ⟨xs⟩ h0 (fun x k => ∃ b, x = g b ∧ k.get b = some (.cells ⟨cs⟩ t (0, 0)))
theorem spR_ok {n : FuncId} {xs : List Value} {g : Nat → Value} {cs : List Value} {t : TypeId} (hF : RowOK n xs g cs t) (ha : xs.all pr = true) (hp : ∀ x ∈ cs, p1 x = true) (hg : ∀ a b : Nat, ren2 [(a, b)] (g a) = some (g b)) : SpOK (spR n xs g cs t) := by
  intro f args h v h' hs
  unfold spR at hs
  obtain ⟨hf, hs2⟩ := cond_some hs
  clear hs
  have := Nat.eq_of_beq_eq_true hf
  subst this
  injection hs2 with hs
  injection hs with hb hs
  injection hs with hv hh
  subst hv hh
  obtain ⟨l⟩ := args
  have e : l = xs := tq_iff hb
  subst e
  refine ⟨FnOK.new1 (u := g 0) (FnOK.mono hF ?_) ha hp (hg 0 _), Nat.le_succ _⟩
  rintro x k ⟨b, rfl, hk⟩
  exact ⟨b, hg b 0, hk⟩
/-- A slice of a new row. -/
def slB (n c : Nat) (b : Nat) : Value := .slice (some ⟨b, 0, none⟩) n c
def slE (n c : Nat) (b : Nat) : Value := .tuple ⟨[.slice (some ⟨b, 0, none⟩) n c, .int .i64 0]⟩
theorem slB_ren (n c a b : Nat) : ren2 [(a, b)] (slB n c a) = some (slB n c b) := by
  simp [slB, ren2, ren1, ren0, renB]
theorem slE_ren (n c a b : Nat) : ren2 [(a, b)] (slE n c a) = some (slE n c b) := by
  simp [slE, ren2, renL, ren1, ren0, renB, p1]
/-! told calls of a stream -/
def GOK (n : FuncId) (xs : Array Value) (t : TypeId) (d : Int) (v : Value) (e : Int) : Prop := t = 25 ∧ p3 v = true ∧ FnOK 1 Tryz.prog n ⟨[.pointer (some ⟨0, 0, none⟩)]⟩ (Ev.h1 (strm xs d)) (fun u g => u = v ∧ g.get 0 = some (strm xs e))
open Classical in
noncomputable def okG (n : FuncId) (xs : Array Value) (t : TypeId) (d : Int) (v : Value) (e : Int) : Bool := @decide (GOK n xs t d v e) (Classical.propDecidable _)
open Classical in
theorem okG_iff {n : FuncId} {xs : Array Value} {t : TypeId} {d : Int} {v : Value} {e : Int} : okG n xs t d v e = true ↔ GOK n xs t d v e := by unfold okG; exact @decide_eq_true_iff _ (Classical.propDecidable _)
noncomputable def spG (n : FuncId) (v : Value) (e : Int) (f : FuncId) (args : Array Value) (h : AH) : Option (Bool × Value × AH) :=
  cond (Nat.beq f n) (match args with
    | ⟨[.pointer (some ⟨b, 0, none⟩)]⟩ => match h.get b with
      | some (.cells ⟨[.func (.yield 0) xs ⟨[]⟩, .int .i64 at_]⟩ t (0, 0)) => some (okG n xs t at_ v e, v, h.set b (.cells ⟨[fz xs, .int .i64 e]⟩ 25 (0, 0)))
      | _ => none
    | _ => none) none
theorem spG_ok (n : FuncId) (v0 : Value) (e0 : Int) : SpOK (spG n v0 e0) := by
  intro f args h v h' hs
  unfold spG at hs
  obtain ⟨hf, hs2⟩ := cond_some hs
  clear hs
  have := Nat.eq_of_beq_eq_true hf
  subst this
  split at hs2
  · split at hs2
    · rename_i xs at_ t hg
      injection hs2 with hs
      injection hs with hb hs
      injection hs with hv hh
      subst hv hh
      obtain ⟨q1, q2, q3⟩ := okG_iff.1 hb
      subst q1
      exact ⟨FnOK.ref (cs := ⟨[fz xs, .int .i64 at_]⟩) (cs' := ⟨[fz xs, .int .i64 e0]⟩) (args := []) q3 rfl (by simp [p1, fz]) (by simp [p1, fz]) q2 hg, Nat.le_refl _⟩
    · cases hs2
  · cases hs2
end Go.Proofs.YtklednomnpghcaaGreatDoor
