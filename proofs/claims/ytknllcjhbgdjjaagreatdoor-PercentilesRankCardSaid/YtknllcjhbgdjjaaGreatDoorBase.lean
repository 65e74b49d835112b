import Derived.Test.YtknllcjhbgdjjaaGreatDoorProg
import Derived.WalkKit
import Derived.WalkSpells
import Derived.WalkLawsBesides
import Derived.Deep.QuietTactic
import Derived.BigQuiet
import Derived.Lib.Hide
import Derived.Below
namespace Go.Proofs.YtknllcjhbgdjjaaGreatDoor
open Go.RowKit

/-- What a slice of integers that came in reads as. -/
def IsRow (k : IntKind) (w : World) (a : Option Addr) (len cap : Nat) (zs : List Int) : Prop :=
  (a = none ∧ len = 0 ∧ cap = 0 ∧ zs = []) ∨
  ∃ x, a = some x ∧ len ≤ cap ∧ cap ≤ maxLen ∧ zs.length = cap ∧ (∀ i, i < zs.length → w.cell? (x.add i) = some (.int k (zs.getD i 0))) ∧ ∀ n ∈ zs, (Lit.int k n).wf = true

def belowV (x n : Int) : Int := if x.tmod n < 0 then x.tmod n + n else x.tmod n
theorem belowV_in (x n : Int) (hn : 1 ≤ n) : 0 ≤ belowV x n ∧ belowV x n < n := by
  have h1 := Int.tmod_lt_of_pos x (show 0 < n by omega)
  have h2 := Int.lt_tmod_of_pos x (show 0 < n by omega)
  unfold belowV
  split <;> omega

theorem ret_int {k : IntKind} {a b : Int} (h : a = b) : Ending.returned (.int k a) = .returned (.int k b) := by rw [h]

set_option maxHeartbeats 400000 in
theorem below_any (x n : Int) (w : World) (hn : 1 ≤ n) (hn2 : n ≤ 9223372036854775807) :
    Calls Tryz.prog 90 #[.int .i64 x, .int .i64 n] w fun e w' => e = .returned (.int .i64 (belowV x n)) ∧ w = w' := by
  have h1 := Int.tmod_lt_of_pos x (show 0 < n by omega)
  have h2 := Int.lt_tmod_of_pos x (show 0 < n by omega)
  have hn0 : (n == 0) = false := by simp; omega
  by_cases hneg : x.tmod n < 0
  · go_enter Tryz.func90, Tryz.ntmps90
    go_wp2
    go_ret
    exact ⟨ret_int (by rw [belowV, if_pos hneg]), rfl⟩
  · have e : belowV x n = x.tmod n := by rw [belowV, if_neg hneg]
    have E := Lib.hid e
    clear e
    go_enter Tryz.func90, Tryz.ntmps90
    go_wp2
    go_ret
    exact ⟨ret_int E.out.symm, rfl⟩

/-- Only one block has been written. -/
structure Only (b : Nat) (w w' : World) : Prop where
  size : w'.heap.size = w.heap.size
  block : ∀ k, k ≠ b → w'.heap[k]? = w.heap[k]?
  tape : w'.tape = w.tape
  os : w'.os = w.os
  output : w'.output = w.output

theorem Only.below {b B : Nat} {w w' : World} (h : Only b w w') (hb : B ≤ b) : Below B w w' :=
  ⟨h.os, h.tape, h.output, by rw [h.size]; exact Nat.le_refl _, fun k hk => h.block k (by omega)⟩

/-- A stream over numbers that came in: its block, and the numbers' own. -/
structure Strm (B b : Nat) (a : Option Addr) (len cap : Nat) (zs : List Int) (n : Nat) (w : World) : Prop where
  blk : w.heap[b]? = some (.cells #[.slice a len cap, .int .i64 n] 25 (0, 0))
  row : IsRow .i64 w a len cap zs
  low : ∀ x, a = some x → 0 < cap → x.block < B
  hb : B ≤ b

theorem add_block (x : Addr) (i : Nat) : (x.add i).block = x.block := by
  unfold Addr.add
  split <;> rfl

theorem add_plain (g o i : Nat) : (Addr.mk g o none).add i = ⟨g, o + i, none⟩ := by
  unfold Addr.add
  split
  · next h => rw [h]; rfl
  · rfl

theorem Strm.keep {B b a len cap zs n w} (h : Strm B b a len cap zs n w) {w' : World} (h1 : w'.heap[b]? = w.heap[b]?) (h2 : ∀ k, k < B → w'.heap[k]? = w.heap[k]?) :
    Strm B b a len cap zs n w' := by
  refine ⟨h1.trans h.blk, ?_, h.low, h.hb⟩
  rcases h.row with hh | ⟨x, hx, h3, h4, h5, h6, h7⟩
  · exact .inl hh
  · refine .inr ⟨x, hx, h3, h4, h5, fun i hi => ?_, h7⟩
    rw [← h6 i hi]
    exact World.cell?_of_block (h2 _ (by rw [add_block]; exact h.low x hx (by omega)))

set_option maxHeartbeats 1000000 in
theorem next_raw (b g o len cap : Nat) (at_ n x : Int) (w : World) (hL : w.cell? ⟨b, 0, none⟩ = some (.slice (some ⟨g, o, none⟩) len cap)) (hA : w.cell? ⟨b, 1, none⟩ = some (.int .i64 at_))
    (hf : w.frozen? ⟨b, 1, none⟩ = false) (h0 : 0 ≤ at_) (h1 : at_ ≤ 1000000000) (hl : 0 < len) (hl2 : len ≤ 9223372036854775807) (hn : 1 ≤ n) (hn2 : n ≤ 4611686018427387904) (hgb : g ≠ b)
    (hx : w.cell? ⟨g, o + (at_ % len).toNat, none⟩ = some (.int .i64 x)) :
    Calls Tryz.prog 50 #[.pointer (some ⟨b, 0, none⟩), .int .i64 n] w fun e w' => ∃ r, 0 ≤ r ∧ r < n ∧ e = .returned (.int .i64 r) ∧ ∃ m, w' = (w.setCell ⟨b, 1, none⟩ (.int .i64 (at_ + 1))).drewN m := by
  have hlz : ((len : Int) == 0) = false := by simp; omega
  have m1 := Int.emod_nonneg at_ (show (len : Int) ≠ 0 by omega)
  have m2 := Int.emod_lt_of_pos at_ (show (0 : Int) < len by omega)
  go_enter Tryz.func50, Tryz.ntmps50
  go_wp2
  go_quiet (fail)
  go_wp2
  go_quiet (fail)
  go_wp2_with fail
  refine (below_any _ _ _ (by omega) (by omega)).mono ?_
  rintro e w' ⟨rfl, rfl⟩
  go_wp2_with fail
  refine (below_any _ _ _ (by omega) (by omega)).mono ?_
  rintro e w' ⟨rfl, rfl⟩
  go_wp2_with fail
  go_ret
  exact ⟨_, (belowV_in _ _ hn).1, (belowV_in _ _ hn).2, rfl, _, rfl⟩

set_option maxHeartbeats 1000000 in
theorem next_none (b cap : Nat) (a : Option Addr) (at_ n : Int) (w : World) (hL : w.cell? ⟨b, 0, none⟩ = some (.slice a 0 cap)) (hA : w.cell? ⟨b, 1, none⟩ = some (.int .i64 at_))
    (hf : w.frozen? ⟨b, 1, none⟩ = false) (h0 : 0 ≤ at_) (h1 : at_ ≤ 1000000000) (hn : 1 ≤ n) (hn2 : n ≤ 4611686018427387904) :
    Calls Tryz.prog 50 #[.pointer (some ⟨b, 0, none⟩), .int .i64 n] w fun e w' => ∃ r, 0 ≤ r ∧ r < n ∧ e = .returned (.int .i64 r) ∧ ∃ m, w' = (w.setCell ⟨b, 1, none⟩ (.int .i64 (at_ + 1))).drewN m := by
  go_enter Tryz.func50, Tryz.ntmps50
  go_wp2_with fail
  refine (below_any _ _ _ (by omega) (by omega)).mono ?_
  rintro e w' ⟨rfl, rfl⟩
  go_wp2_with fail
  go_ret
  exact ⟨_, (belowV_in _ _ hn).1, (belowV_in _ _ hn).2, rfl, 0, rfl⟩

theorem drewN_os (w : World) (m : Nat) : (w.drewN m).os = w.os := by
  induction m generalizing w with
  | zero => rfl
  | succ m ih => exact ih _
theorem drewN_output (w : World) (m : Nat) : (w.drewN m).output = w.output := by
  induction m generalizing w with
  | zero => rfl
  | succ m ih => exact ih _

theorem set_second (w : World) (b n : Nat) (s : Value) (v : Value) (t : TypeId) (h : w.heap[b]? = some (.cells #[s, .int .i64 n] t (0, 0))) (m : Nat) :
    (((w.setCell ⟨b, 1, none⟩ v).drewN m).heap[b]? = some (.cells #[s, v] t (0, 0))) ∧ Only b w ((w.setCell ⟨b, 1, none⟩ v).drewN m) := by
  have hh : ∀ k (u : World), (u.drewN k).heap = u.heap := fun k u => rfl
  refine ⟨?_, ?_⟩
  · rw [hh]
    simp [World.setCell, Array.getElem?_modify, h]
  · refine ⟨?_, fun k hk => ?_, ?_, ?_, ?_⟩
    · rw [hh]; simp [World.setCell]
    · rw [hh]; exact Below.heap_setCell _ _ _ _ hk
    · simp [World.setCell]
    · exact drewN_os _ _
    · exact drewN_output _ _

/-- A stream as the law makes it. -/
theorem Strm.start (a : Option Addr) (len cap : Nat) (zs : List Int) (w : World) (h : IsRow .i64 w a len cap zs) :
    Strm w.heap.size w.heap.size a len cap zs 0 (w.alloc (.cells #[.slice a len cap, .int .i64 0] 25)) ∧ Below w.heap.size w (w.alloc (.cells #[.slice a len cap, .int .i64 0] 25)) := by
  have bel : Below w.heap.size w (w.alloc (.cells #[.slice a len cap, .int .i64 0] 25)) := (Below.refl _ _).alloc (Nat.le_refl _) _
  refine ⟨⟨by show (w.heap.push _)[w.heap.size]? = _; simp, ?_, ?_, Nat.le_refl _⟩, bel⟩
  · rcases h with hh | ⟨x, hx, h3, h4, h5, h6, h7⟩
    · exact .inl hh
    · refine .inr ⟨x, hx, h3, h4, h5, fun i hi => ?_, h7⟩
      rw [← h6 i hi]
      refine World.cell?_of_block (bel.block _ ?_)
      have := h6 i hi
      unfold World.cell? at this
      cases hb : w.heap[(x.add i).block]? with
      | none => rw [hb] at this; cases this
      | some o => exact (Array.getElem?_eq_some_iff.1 hb).1
  · intro x hx hc
    rcases h with ⟨h1, _⟩ | ⟨y, hy, h3, h4, h5, h6, h7⟩
    · rw [h1] at hx; cases hx
    · obtain rfl : y = x := by rw [hx] at hy; exact (Option.some.inj hy).symm
      have := h6 0 (by omega)
      rw [show y.add 0 = y from rfl] at this
      unfold World.cell? at this
      cases hb : w.heap[y.block]? with
      | none => rw [hb] at this; cases this
      | some o => exact (Array.getElem?_eq_some_iff.1 hb).1

/-- The stream hands out its next number. -/
theorem next_ok {B b a len cap zs n w} (S : Strm B b a len cap zs n w) (hn : n ≤ 1000000000) (m : Int) (h1 : 1 ≤ m) (h2 : m ≤ 4611686018427387904) :
    Calls Tryz.prog 50 #[.pointer (some ⟨b, 0, none⟩), .int .i64 m] w fun e w' => ∃ r, 0 ≤ r ∧ r < m ∧ e = .returned (.int .i64 r) ∧ Strm B b a len cap zs (n + 1) w' ∧ Only b w w' := by
  have c0 : w.cell? ⟨b, 0, none⟩ = some (.slice a len cap) := by simp [World.cell?, S.blk]
  have c1 : w.cell? ⟨b, 1, none⟩ = some (.int .i64 n) := by simp [World.cell?, S.blk]
  have f1 : w.frozen? ⟨b, 1, none⟩ = false := by simp [World.frozen?, S.blk]
  have key : ∀ (e : Ending) (w' : World), (∃ r, 0 ≤ r ∧ r < m ∧ e = .returned (.int .i64 r) ∧ ∃ k, w' = (w.setCell ⟨b, 1, none⟩ (.int .i64 ((n : Int) + 1))).drewN k) → ∃ r, 0 ≤ r ∧ r < m ∧ e = .returned (.int .i64 r) ∧ Strm B b a len cap zs (n + 1) w' ∧ Only b w w' := by
    rintro e w' ⟨r, hr0, hr1, rfl, k, rfl⟩
    obtain ⟨k1, k2⟩ := set_second w b n _ (.int .i64 ((n : Int) + 1)) _ S.blk k
    refine ⟨r, hr0, hr1, rfl, ⟨by rw [k1]; simp, ?_, S.low, S.hb⟩, k2⟩
    rcases S.row with hh | ⟨x, hx, h3, h4, h5, h6, h7⟩
    · exact .inl hh
    · refine .inr ⟨x, hx, h3, h4, h5, fun i hi => ?_, h7⟩
      rw [← h6 i hi]
      exact World.cell?_of_block (k2.block _ (by rw [add_block]; have := S.low x hx (by omega); have := S.hb; omega))
  rcases Nat.eq_zero_or_pos len with rfl | hl
  · exact (next_none b cap a n m w c0 c1 f1 (by omega) (by omega) h1 h2).mono fun e w' h => key e w' h
  · rcases S.row with hh | ⟨x, rfl, h3, h4, h5, h6, h7⟩
    · omega
    · obtain ⟨g, o, sp⟩ := x
      have hs : sp = none := by
        have := h6 0 (by omega)
        simp only [Addr.add, World.cell?] at this
        cases sp with
        | none => rfl
        | some s =>
          simp at this
          split at this <;> simp at this
      subst hs
      have m1 := Int.emod_nonneg (n : Int) (show (len : Int) ≠ 0 by omega)
      have m2 := Int.emod_lt_of_pos (n : Int) (show (0 : Int) < len by omega)
      have hx := h6 ((n : Int) % len).toNat (by omega)
      rw [add_plain] at hx
      have hgb : g ≠ b := by have := S.low _ rfl (by omega); have := S.hb; simp at *; omega
      simp [maxLen] at h4
      exact (next_raw b g o len cap n m _ w c0 c1 f1 (by omega) (by omega) hl (by omega) h1 h2 hgb hx).mono fun e w' h => key e w' h
set_option maxHeartbeats 1000000 in
/-- A number from low to high. -/
theorem range_ok {B b a len cap zs n w} (S : Strm B b a len cap zs n w) (hn : n ≤ 1000000000) (lo hi : Int) (h1 : lo ≤ hi) (h2 : -2305843009213693952 ≤ lo) (h3 : hi ≤ 2305843009213693951) :
    Calls Tryz.prog 13 #[.pointer (some ⟨b, 0, none⟩), .int .i64 lo, .int .i64 hi] w fun e w' => ∃ r, lo ≤ r ∧ r ≤ hi ∧ e = .returned (.int .i64 r) ∧ Strm B b a len cap zs (n + 1) w' ∧ Only b w w' := by
  go_enter Tryz.func13, Tryz.ntmps13
  go_wp2_with fail
  refine (next_ok S hn _ (by omega) (by omega)).mono ?_
  rintro e w' ⟨r, r0, r1, rfl, S', o⟩
  go_wp2_with fail
  go_ret
  exact ⟨_, by omega, by omega, rfl, S', o⟩

set_option maxHeartbeats 1000000 in
theorem flip_ok {B b a len cap zs n w} (S : Strm B b a len cap zs n w) (hn : n ≤ 1000000000) (m : Int) (h1 : 1 ≤ m) (h2 : m ≤ 4611686018427387904) :
    Calls Tryz.prog 42 #[.pointer (some ⟨b, 0, none⟩), .int .i64 m] w fun e w' => ∃ r, e = .returned (.bool r) ∧ Strm B b a len cap zs (n + 1) w' ∧ Only b w w' := by
  go_enter Tryz.func42, Tryz.ntmps42
  go_wp2_with fail
  refine (next_ok S hn _ (by omega) (by omega)).mono ?_
  rintro e w' ⟨r, r0, r1, rfl, S', o⟩
  go_wp2_with fail
  go_ret
  exact ⟨_, rfl, S', o⟩
end Go.Proofs.YtknllcjhbgdjjaaGreatDoor
