import Derived.Test.YtknllcjhbgdjjaaGreatDoorPct
import Derived.Test.YtknllcjhbgdjjaaGreatDoorReady
import Derived.OwnWalk
import Derived.Laws.AppendOwn
namespace Go.Proofs.YtknllcjhbgdjjaaGreatDoor
open Go.RowKit

theorem info3 : (Tryz.prog.info? 3).map (fun i => (i.zero, i.size, i.bytes)) = some (some (.int .i64 0), 1, 8) := by kernel_rfl

/-- A row of the call's own goes through a write to another block. -/
theorem owns_only {w w' : World} {base b : Nat} {e : TypeId} {v : Value} {n : Nat} {xs : List Value} (h : w.ownsRow base e 1 v n xs) (o : Only b w w') (hb : b < base) : w'.ownsRow base e 1 v n xs := by
  refine ⟨h.1, ?_⟩
  rcases h.2 with hh | ⟨g, cap, cur, hv, h1, h2, h3⟩
  · exact .inl hh
  · exact .inr ⟨g, cap, cur, hv, h1, by rw [o.block g (by omega)]; exact h2, h3⟩

theorem own_ne {w : World} {base b : Nat} {e : TypeId} {v : Value} {n : Nat} {xs : List Value} (h : w.ownsRow base e 1 v n xs) (hb : b < base) : some b ≠ v.ownBlock := by
  rcases h.2 with ⟨rfl, _⟩ | ⟨g, cap, cur, rfl, h1, _⟩
  · simp [Value.ownBlock]
  · simp [Value.ownBlock]; omega

namespace PctLaw
theorem countP_take_drop {α} (p : α → Bool) (l : List α) (n : Nat) : l.countP p = (l.take n).countP p + (l.drop n).countP p := by
  rw [← List.countP_append, List.take_append_drop]

def srt (xs : List Int) : List Int := xs.mergeSort fun x y => decide (x ≤ y)

theorem srt_pairwise (xs : List Int) : (srt xs).Pairwise fun x y => x ≤ y := by
  have := List.pairwise_mergeSort (le := fun (x y : Int) => decide (x ≤ y)) (fun a b c h1 h2 => by simp at *; omega) (fun a b => by simp; omega) xs
  simpa [srt] using this

theorem srt_perm (xs : List Int) : (srt xs).Perm xs := List.mergeSort_perm xs _

theorem srt_length (xs : List Int) : (srt xs).length = xs.length := (srt_perm xs).length_eq

theorem mono (xs : List Int) (i j : Nat) (hij : i ≤ j) (hj : j < (srt xs).length) : (srt xs)[i]'(by omega) ≤ (srt xs)[j] := by
  rcases Nat.lt_or_eq_of_le hij with h | rfl
  · exact List.pairwise_iff_getElem.1 (srt_pairwise xs) i j (by omega) hj h
  · exact Int.le_refl _

theorem law (xs : List Int) (part : Nat) (h0 : 0 < xs.length) (h1 : 1 ≤ part) (h2 : part ≤ 1000) (i : Nat) (hi : i = (part * xs.length + 999) / 1000 - 1) :
    (srt xs).getD i 0 ∈ xs ∧ part * xs.length ≤ (xs.countP fun k => decide (k ≤ (srt xs).getD i 0)) * 1000 ∧ (xs.countP fun k => decide (k < (srt xs).getD i 0)) * 1000 < part * xs.length := by
  have hl := srt_length xs
  have m1 : 1 * xs.length ≤ part * xs.length := Nat.mul_le_mul_right _ h1
  have m2 : part * xs.length ≤ 1000 * xs.length := Nat.mul_le_mul_right _ h2
  have hlt : i < (srt xs).length := by omega
  have hget : (srt xs).getD i 0 = (srt xs)[i] := by simp [List.getD, List.getElem?_eq_getElem hlt]
  rw [hget]
  refine ⟨(srt_perm xs).mem_iff.1 (List.getElem_mem hlt), ?_, ?_⟩
  · have : i + 1 ≤ xs.countP fun k => decide (k ≤ (srt xs)[i]) := by
      rw [← (srt_perm xs).countP_eq, countP_take_drop _ _ (i + 1)]
      have : ((srt xs).take (i + 1)).countP (fun k => decide (k ≤ (srt xs)[i])) = ((srt xs).take (i + 1)).length := by
        rw [List.countP_eq_length]
        intro a ha
        obtain ⟨j, hj, rfl⟩ := List.mem_iff_getElem.1 ha
        simp only [List.length_take] at hj
        simp only [List.getElem_take, decide_eq_true_eq]
        exact mono xs j i (by omega) hlt
      rw [this]
      simp only [List.length_take]
      omega
    omega
  · have : (xs.countP fun k => decide (k < (srt xs)[i])) ≤ i := by
      rw [← (srt_perm xs).countP_eq, countP_take_drop _ _ i]
      have h3 : ((srt xs).drop i).countP (fun k => decide (k < (srt xs)[i])) = 0 := by
        rw [List.countP_eq_zero]
        intro a ha
        obtain ⟨j, hj, rfl⟩ := List.mem_iff_getElem.1 ha
        simp only [List.length_drop] at hj
        have := mono xs i (i + j) (by omega) (by omega)
        simp only [List.getElem_drop, decide_eq_true_eq]
        omega
      have h4 := List.countP_le_length (p := fun k => decide (k < (srt xs)[i])) (l := (srt xs).take i)
      simp only [List.length_take] at h4
      omega
    omega
end PctLaw

namespace percentilesRank

theorem pctLaw (xs : List Int) (part : Int) (h0 : 0 < xs.length) (h1 : 1 ≤ part) (h2 : part ≤ 1000) :
    pctOf xs part ∈ xs ∧ part * xs.length ≤ ((xs.countP fun k => decide (k ≤ pctOf xs part) : Nat) : Int) * 1000 ∧ ((xs.countP fun k => decide (k < pctOf xs part) : Nat) : Int) * 1000 < part * xs.length := by
  obtain ⟨q, rfl⟩ : ∃ q : Nat, part = q := ⟨part.toNat, by omega⟩
  have e : (((q : Int) * xs.length + 1000 - 1) / 1000).toNat - 1 = (q * xs.length + 999) / 1000 - 1 := by
    rw [← Int.natCast_mul]
    omega
  have h := PctLaw.law xs q h0 (by omega) (by omega) _ rfl
  rw [← e] at h
  have k1 : pctOf xs q = (PctLaw.srt xs).getD ((((q : Int) * xs.length + 1000 - 1) / 1000).toNat - 1) 0 := rfl
  rw [← k1] at h
  refine ⟨h.1, ?_, ?_⟩
  · have := h.2.1
    rw [← Int.natCast_mul]
    omega
  · have := h.2.2
    rw [← Int.natCast_mul]
    omega

theorem cnt_hit (f : Int → Bool) (xs : List Int) (k : Nat) (hk : k < xs.length) (h : f xs[k] = true) : (xs.take (k + 1)).countP f = (xs.take k).countP f + 1 := by
  rw [List.take_succ_eq_append_getElem hk, List.countP_append]
  simp [h]

theorem cnt_miss (f : Int → Bool) (xs : List Int) (k : Nat) (hk : k < xs.length) (h : f xs[k] = false) : (xs.take (k + 1)).countP f = (xs.take k).countP f := by
  rw [List.take_succ_eq_append_getElem hk, List.countP_append]
  simp [h]

/-- What the first loop keeps. -/
structure Rel (a : Option Addr) (len cap : Nat) (zs : List Int) (w : World) (m : Nat) (v i : Value) (wr : World) (k : Nat) (xs : List Int) : Prop where
  hi : i = .int .i64 k
  hk : k ≤ m
  hlen : xs.length = k
  own : wr.ownsRow (w.heap.size + 1) 3 1 v k (xs.map (Value.int .i64))
  st : Strm w.heap.size w.heap.size a len cap zs (k + 1) wr
  bel : Below w.heap.size w wr
  size : w.heap.size < wr.heap.size

theorem step {a len cap zs w m v i wr k xs} (R : Rel a len cap zs w m v i wr k xs) (hk : k < m) {w' : World} {r : Int} (S : Strm w.heap.size w.heap.size a len cap zs (k + 1 + 1) w') (o : Only w.heap.size wr w') {ob : Obj} {v' : Value} {w1 : World}
    (h : w1.ownsRow (w.heap.size + 1) 3 1 v' (k + 1) (xs.map (Value.int .i64) ++ [.int .i64 r])) (g : (w'.alloc ob).grownBy w1 v.ownBlock) :
    Rel a len cap zs w m v' (.int .i64 ((k : Int) + 1)) w1 (k + 1) (xs ++ [r]) := by
  have hs : w'.heap.size = wr.heap.size := o.size
  have hs2 : (w'.alloc ob).heap.size = wr.heap.size + 1 := by simp [hs]
  have hne := own_ne R.own (Nat.lt_succ_self w.heap.size)
  have kp : ∀ j, j ≤ w.heap.size → w1.heap[j]? = w'.heap[j]? := by
    intro j hj
    have := R.size
    rw [g.block j (by omega) (own_ne R.own (by omega))]
    exact Below.heap_alloc _ _ _ (by omega)
  refine ⟨by simp, by omega, by simp [R.hlen], by simpa using h, S.keep (kp _ (Nat.le_refl _)) (fun j hj => kp j (by omega)), ?_, ?_⟩
  · refine R.bel.trans ((o.below (Nat.le_refl _)).trans ⟨?_, ?_, ?_, ?_, fun j hj => kp j (by omega)⟩)
    · exact g.os
    · exact g.tape
    · exact g.output
    · have := g.size; omega
  · have := g.size; have := R.size; omega

set_option maxHeartbeats 1600000 in
set_option maxRecDepth 1000000 in
theorem walk (a0 : Option Addr) (len0 cap0 : Nat) (z0 : List Int) (w : World) (w0 : IsRow .i64 w a0 len0 cap0 z0) :
    Calls Tryz.prog 4 #[.slice a0 len0 cap0] w fun e w' => e = .returned (.bool true) ∧ Below w.heap.size w w' := by
  obtain ⟨i0, hi, hz0, hz1, hz2⟩ := info_parts info3
  have st := Strm.start a0 len0 cap0 z0 w w0
  have hsz : w.heap.size < (w.alloc (.cells #[.slice a0 len0 cap0, .int .i64 0] 25)).heap.size := by simp
  clear w0
  go_enter Tryz.func4, Tryz.ntmps4
  go_wp2_with fail
  refine (range_ok st.1 (by omega) 1 9 (by omega) (by omega) (by omega)).mono ?_
  rintro e w1 ⟨mz, hm0, hm1, rfl, S1, o1⟩
  obtain ⟨m, rfl⟩ : ∃ m : Nat, mz = m := ⟨mz.toNat, by omega⟩
  have R0 : Rel a0 len0 cap0 z0 w m (.slice none 0 0) (.int .i64 0) w1 0 [] := ⟨rfl, by omega, rfl, World.ownsRow_nil _ _ _ _, S1, st.2.trans (o1.below (Nat.le_refl _)), by rw [o1.size]; exact hsz⟩
  clear S1 o1 st hsz
  go_wp2
  go_loopw [4, 17] (fun v i wr => ∃ k xs, Rel a0 len0 cap0 z0 w m v i wr k xs) (fun _ i _ => m - (intOf i).toNat)
  case atStart => exact ⟨0, [], R0⟩
  case round =>
    obtain ⟨k, xs, R⟩ := hrel
    obtain rfl := R.hi
    have hk := R.hk
    go_wp2_with fail
    · have hlt : k < m := by assumption
      refine (range_ok R.st (by omega) (-5) 20 (by omega) (by omega) (by omega)).mono ?_
      rintro e w2 ⟨r, hr0, hr1, rfl, S2, o2⟩
      have own2 := owns_only R.own o2 (by omega)
      have hlen := R.hlen
      have hsz2 := R.size
      have ho2 : wr.heap.size ≤ w2.heap.size := Nat.le_of_eq o2.size.symm
      go_wp2_with (at_builtin; refine wpList_append_own _ rfl _ _ 22 rfl (w.heap.size + 1) 3 i0 (.int .i64 0) 1 8 Tryz.underlying22 hi hz0 hz1 hz2 rfl (by decide) _ _ _ rfl (own2.alloc _) ⟨w2.heap.size, 0, none⟩ 1 1 [.int .i64 r] rfl rfl ?c1 ?c2 ?c3 ?c4 ?c5 ?_)
      case c1 =>
        intro j u hj
        match j, hj with
        | 0, hj => simp at hj; subst hj; simp [Addr.add]
      case c2 => intro u hu; simp at hu; subst hu; rfl
      case c3 => unfold maxLen; omega
      case c4 => omega
      case c5 => simp; omega
      intro v' w3 hown' hgrow _
      have R' := step R hlt S2 o2 hown' hgrow
      clear hown' hgrow own2 S2 o2 R
      go_wp2
      go_roundw
      case rel => exact ⟨k + 1, _, R'⟩
      case measure => simp [intOf]; omega
    · have hge : ¬ k < m := by assumption
      obtain rfl : k = m := by omega
      refine (range_ok R.st (by omega) 1 1000 (by omega) (by omega) (by omega)).mono ?_
      rintro e w2 ⟨part, hp0, hp1, rfl, S2, o2⟩
      have own2 := owns_only R.own o2 (by omega)
      have hlen := R.hlen
      have bel2 := R.bel.trans (o2.below (Nat.le_refl _))
      rcases own2.2 with ⟨_, h0⟩ | ⟨g, cap, cur, rfl, hbase, hb, h1, h2, h3, h4⟩
      · omega
      have hc : ∀ j, j < xs.length → w2.cell? ⟨g, 0 + j, none⟩ = some (.int .i64 (xs.getD j 0)) := by
        intro j hj
        have h := own2.cellAt j (by omega)
        simpa [List.getD, hj] using h
      have hgl : g < w2.heap.size := (Array.getElem?_eq_some_iff.1 hb).1
      have hB := Lib.hid bel2
      clear R own2 bel2 o2 S2 hb h3 h4 R0
      obtain rfl := hlen
      go_wp2_with fail
      refine (percentile_ok g 0 cap xs part w2 (by omega) (by omega) hp0 hp1 hc).mono ?_
      rintro e w3 ⟨rfl, bel3⟩
      have hc3 : ∀ j, j < xs.length → w3.cell? ⟨g, 0 + j, none⟩ = some (.int .i64 (xs.getD j 0)) := fun j hj => (bel3.cell hgl).trans (hc j hj)
      have bel4 := Lib.hid (hB.out.trans (bel3.mono (hB.out.size)))
      obtain ⟨hin, hq1, hq2⟩ := pctLaw xs part (by omega) hp0 hp1
      obtain ⟨p, hp⟩ : ∃ p, p = pctOf xs part := ⟨_, rfl⟩
      rw [← hp] at hin hq1 hq2 ⊢
      have HP := Lib.hid hp
      have hm1 : part ≤ part * xs.length := by
        have h : part * 1 ≤ part * xs.length := Int.mul_le_mul_of_nonneg_left (show (1 : Int) ≤ xs.length by omega) (show (0 : Int) ≤ part by omega)
        rwa [Int.mul_one] at h
      have hm2 : part * xs.length ≤ 1000 * xs.length := Int.mul_le_mul_of_nonneg_right hp1 (by omega)
      have hcon : Calls Tryz.prog 15 #[.slice (some ⟨g, 0, none⟩) xs.length cap, .int .i64 p] w3 fun e w' => e = .returned (.bool true) ∧ w' = w3 := by
        have h := Tryz.slices_Contains_int g 0 xs.length cap xs p w3 (Nat.le_refl _) (by omega) hc3
        rw [List.take_length, show xs.contains p = true by simpa using hin] at h
        exact h
      have HC := Lib.hid hcon
      clear hc hp hcon hB bel3 hin
      go_wp2
      go_loopw [8, 9, 35] (fun c1 c2 i wr => ∃ k : Nat, k ≤ xs.length ∧ i = .int .i64 k ∧ c1 = .int .i64 ((xs.take k).countP fun x => decide (x ≤ p)) ∧ c2 = .int .i64 ((xs.take k).countP fun x => decide (x < p)) ∧ wr = w3) (fun _ _ i _ => xs.length - (intOf i).toNat)
      case atStart => exact ⟨0, by omega, rfl, rfl, rfl, rfl⟩
      case round =>
        obtain ⟨k, hk, rfl, rfl, rfl, rfl⟩ := hrel
        obtain ⟨c1, hc1⟩ : ∃ c : Nat, c = (xs.take k).countP fun x => decide (x ≤ p) := ⟨_, rfl⟩
        obtain ⟨c2, hc2⟩ : ∃ c : Nat, c = (xs.take k).countP fun x => decide (x < p) := ⟨_, rfl⟩
        have l1 : c1 ≤ k := by rw [hc1]; exact Nat.le_trans List.countP_le_length (by simp; omega)
        have l2 : c2 ≤ k := by rw [hc2]; exact Nat.le_trans List.countP_le_length (by simp; omega)
        rw [← hc1, ← hc2]
        have HC1 := Lib.hid hc1
        have HC2 := Lib.hid hc2
        clear hc1 hc2
        have hck : k < xs.length → wr.cell? ⟨g, k, none⟩ = some (.int .i64 (xs.getD k 0)) := fun h => by simpa using hc3 k h
        go_wp2_with fail
        · have hlt : k < xs.length := by assumption
          have t1 : xs[k] ≤ p := by assumption
          have t2 : xs[k] < p := by assumption
          go_roundw
          case rel => exact ⟨k + 1, by omega, by go_num, by rw [cnt_hit _ xs k hlt (decide_eq_true t1), ← HC1.out]; go_num, by rw [cnt_hit _ xs k hlt (decide_eq_true t2), ← HC2.out]; go_num, trivial⟩
          case measure => simp [intOf]; omega
        · have hlt : k < xs.length := by assumption
          have t1 : xs[k] ≤ p := by assumption
          have t2 : p ≤ xs[k] := by assumption
          go_roundw
          case rel => exact ⟨k + 1, by omega, by go_num, by rw [cnt_hit _ xs k hlt (decide_eq_true t1), ← HC1.out]; go_num, by rw [cnt_miss _ xs k hlt (decide_eq_false (by omega)), ← HC2.out], trivial⟩
          case measure => simp [intOf]; omega
        · have hlt : k < xs.length := by assumption
          have t1 : p < xs[k] := by assumption
          have t2 : p ≤ xs[k] := by assumption
          go_roundw
          case rel => exact ⟨k + 1, by omega, by go_num, by rw [cnt_miss _ xs k hlt (decide_eq_false (by omega)), ← HC1.out], by rw [cnt_miss _ xs k hlt (decide_eq_false (by omega)), ← HC2.out], trivial⟩
          case measure => simp [intOf]; omega
        · have hge : ¬ k < xs.length := by assumption
          obtain rfl : k = xs.length := by omega
          have e1 := HC1.out
          have e2 := HC2.out
          rw [List.take_length] at e1 e2
          rw [← e1] at hq1
          rw [← e2] at hq2
          clear e1 e2
          refine HC.out.mono ?_
          rintro e w4 ⟨rfl, rfl⟩
          go_wp2_with fail
          refine (ready_calls w4).mono ?_
          rintro e w5 ⟨rfl, bel5⟩
          have bel6 := Lib.hid (bel4.out.trans (bel5.mono bel4.out.size))
          clear bel5
          go_wp2
          go_ret
          exact ⟨rfl, bel6.out⟩
end percentilesRank
end Go.Proofs.YtknllcjhbgdjjaaGreatDoor
