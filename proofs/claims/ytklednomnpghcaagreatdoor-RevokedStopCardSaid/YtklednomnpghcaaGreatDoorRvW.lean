/-
  Signers: the signer at a moment, over worlds: a range over slices.Backward.
-/
import Derived.RangeFuncNested
import Derived.RangeFuncBound
import Derived.RangeFuncCalls
import Derived.RangeFuncLeaves
import Derived.RangeFuncBox
import Derived.Shelf.Abstract
import Derived.Shelf.RegionOpen
import Derived.WalkKit
import Derived.OwnWalkIn
import Derived.TacticsInMore
import Derived.LoopNIn
import Derived.LoopIn
import Derived.Deep.MidRow
import Derived.Test.YtklednomnpghcaaGreatDoorProg
namespace Go.Proofs.YtklednomnpghcaaGreatDoor
open Go.RowKit Go.Shelf

attribute [local go_sem] Oper.semAt_some

/-- A signer as it lies in memory. -/
structure Sw where
  id : ByteArray
  sec : ByteArray
  fr : Int
  to : Int
  un : Int
def swC (s : Sw) : List Value := [.string s.id, .string s.sec, .int .i64 s.fr, .int .i64 s.to, .int .i64 s.un]
def swV (s : Sw) : Value := .agg (swC s).toArray
def sw0 : Sw := ⟨⟨#[]⟩, ⟨#[]⟩, 0, 0, 0⟩
def upto {α : Type} (f : Nat → α) (k : Nat) : List α := (List.range k).map f
theorem upto_succ {α : Type} (f : Nat → α) (k : Nat) : upto f (k + 1) = upto f k ++ [f k] := by simp [upto, List.range_succ]
theorem upto_length {α : Type} (f : Nat → α) (k : Nat) : (upto f k).length = k := by simp [upto]
/-- What comes in round j. -/
def bwd (zs : List Sw) (j : Nat) : Int × Sw := ((zs.length : Int) - 1 - (j : Int), zs[zs.length - 1 - j]?.getD sw0)

theorem sgInfo : (Tryz.prog.info? 44).map (·.size) = some 5 := by kernel_rfl
set_option maxRecDepth 100000 in
set_option maxHeartbeats 2000000 in
theorem bw1_in (F : Fence) (n : Nat) (h51 : F.fn 140) (hro : F.round = none) (hn : 1 ≤ n) (l Bs n₀ b off cap : Nat) (zs : List Sw) (hreach : zs.length ≤ 1000) (hb : b < n₀) (J Jx : List (Int × Sw) → World → Prop)
    (hY : ∀ pre x W, J pre W → pre.length < zs.length → YieldAt F (n - 1) Tryz.prog l #[.int .i64 x.1, swV x.2] W fun e W' =>
      (e = .returned (.bool true) ∧ J (pre ++ [x]) W' ∧ Below n₀ W W') ∨ (e = .returned (.bool false) ∧ Jx (pre ++ [x]) W'))
    (W : World) (hBs : W.cell? ⟨Bs, 0, none⟩ = some (.slice (some ⟨b, off, none⟩) zs.length cap)) (hBn : Bs < n₀) (hc : ∀ j s, zs[j]? = some s → W.rangeAt b (off + j * 5) (swC s)) (h0 : J [] W) :
    CallsIn F n Tryz.prog 140 #[.func (.yield l) #[] #[], .pointer (some ⟨Bs, 0, none⟩)] W fun e W' => (∃ v, e = .returned v) ∧
      ((∃ ys, ys = upto (bwd zs) zs.length ∧ J ys W') ∨ (∃ pre, (∃ k, k ≤ zs.length ∧ pre = upto (bwd zs) k) ∧ Jx pre W')) := by
  refine callsIn_of_wp Tryz.func140 rfl h51 ?_ hro
  simp only [Tryz.ntmps140, List.size_toArray, List.length_cons, List.length_nil, Nat.reduceAdd, Nat.reduceSub, Array.replicate_succ, Array.replicate_zero, List.push_toArray, List.append_toArray, List.nil_append, List.cons_append]
  gi_wp2
  gi_loopw [3] (fun i wr => ∃ k : Nat, k ≤ zs.length ∧ i = .int .i64 ((zs.length : Int) - 1 - (k : Int)) ∧ J (upto (bwd zs) k) wr ∧ Below n₀ W wr)
    (fun i _ => (intOf i + 1).toNat)
  case atStart => exact ⟨0, Nat.zero_le _, by simp, h0, Below.refl _ _⟩
  case round =>
    obtain ⟨k, hk, rfl, hJs, hnx⟩ := hrel
    have hBs' : wr.cell? ⟨Bs, 0, none⟩ = some (.slice (some ⟨b, off, none⟩) zs.length cap) := (hnx.cell (p := ⟨Bs, 0, none⟩) hBn).trans hBs
    by_cases hlt : k < zs.length
    · obtain ⟨fn, tmps, assign, body, hy, hR⟩ := hY _ (bwd zs k) wr hJs (by rw [upto_length]; exact hlt)
      have hidx : zs.length - 1 - k < zs.length := by omega
      obtain ⟨s, hs, hbw⟩ : ∃ s, zs[zs.length - 1 - k]? = some s ∧ bwd zs k = ((zs.length : Int) - 1 - (k : Int), s) := ⟨zs[zs.length - 1 - k], List.getElem?_eq_getElem hidx, by simp [bwd, hidx]⟩
      rw [hbw] at hy
      dsimp only [swV, swC] at hy
      have hrow := hc (zs.length - 1 - k) s hs
      clear hs
      have hcell : ∀ j v, (swC s)[j]? = some v → wr.cell? ⟨b, off + (zs.length - 1 - k) * 5 + j, none⟩ = some v := fun j v hv => (hnx.cell (p := ⟨b, off + (zs.length - 1 - k) * 5 + j, none⟩) hb).trans (hrow j v hv)
      have c0 : wr.cell? ⟨b, off + (zs.length - 1 - k) * 5, none⟩ = some (.string s.id) := hcell 0 _ rfl
      have c1 := hcell 1 _ rfl
      have c2 := hcell 2 _ rfl
      have c3 := hcell 3 _ rfl
      have c4 := hcell 4 _ rfl
      gi_wp2
      refine hR.mono ?_
      rintro e W3 (⟨rfl, hJ3, hk3⟩ | ⟨rfl, hJx3⟩)
      · gi_wp2
        go_roundw
        case rel => exact ⟨k + 1, by omega, by simp; omega, by rw [upto_succ]; exact hJ3, hnx.trans hk3⟩
        case measure => simp [intOf]; omega
      · gi_wp2
        refine bodyPost_ret (results_none rfl _ _ _) rfl ?_
        exact ⟨⟨_, rfl⟩, .inr ⟨_, ⟨k + 1, by omega, (upto_succ _ _).symm⟩, hJx3⟩⟩
    · obtain rfl : k = zs.length := by omega
      gi_wp2
      go_end0
      exact ⟨⟨_, rfl⟩, .inl ⟨_, rfl, hJs⟩⟩
set_option maxHeartbeats 1000000 in
theorem bw_in (F : Fence) (n : Nat) (h30 : F.fn 104) (hro : F.round = none) (a : Option Addr) (len cap : Nat) (w : World) :
    CallsIn F n Tryz.prog 104 #[.slice a len cap] w fun e w' => e = .returned (.func (.func 140) #[] #[.pointer (some ⟨w.heap.size, 0, none⟩)]) ∧ w' = w.alloc (.cells #[.slice a len cap] 28) := by
  refine callsIn_of_wp Tryz.func104 rfl h30 ?_ hro
  simp only [Tryz.ntmps104, List.size_toArray, List.length_cons, List.length_nil, Nat.reduceAdd, Nat.reduceSub, Array.replicate_succ, Array.replicate_zero, List.push_toArray, List.append_toArray, List.nil_append, List.cons_append]
  gi_wp2
  go_ret
  exact ⟨rfl, rfl⟩
theorem bw_stops (F : Fence) (n : Nat) (h51 : F.fn 140) (hro : F.round = none) (hn : 1 ≤ n) (Bs n₀ b off cap : Nat) (zs : List Sw) (hreach : zs.length ≤ 1000) (w : World) (hn₀ : n₀ ≤ w.heap.size) (hb : b < n₀) (hBn : Bs < n₀)
    (hBs : w.cell? ⟨Bs, 0, none⟩ = some (.slice (some ⟨b, off, none⟩) zs.length cap)) (hc : ∀ j s, zs[j]? = some s → w.rangeAt b (off + j * 5) (swC s)) :
    SeqStopsK F n Tryz.prog 140 #[.pointer (some ⟨Bs, 0, none⟩)] (fun x : Int × Sw => #[Value.int .i64 x.1, swV x.2]) (Below n₀) (fun ys => ys = upto (bwd zs) zs.length) (fun pre => ∃ k, k ≤ zs.length ∧ pre = upto (bwd zs) k) zs.length w := fun l J Jx W hW _ _ hY h0 => by
  have hW := hW.mono hn₀
  exact bw1_in F n h51 hro hn l Bs n₀ b off cap zs hreach hb J Jx hY W ((hW.cell (p := ⟨Bs, 0, none⟩) hBn).trans hBs) hBn (fun j s hs i v hv => (hW.cell (p := ⟨b, off + j * 5 + i, none⟩) hb).trans (hc j s hs i v hv)) h0
/-- Whether a signer signs at a moment. -/
def fits (t : Int) (s : Sw) : Bool := decide (s.fr ≤ t) && decide (t < s.to)
set_option maxRecDepth 100000 in
set_option maxHeartbeats 4000000 in
theorem sa_in (F : Fence) (n : Nat) (h14 : F.fn 58) (h30 : F.fn 104) (h51 : F.fn 140) (hro : F.round = none) (hn : 3 ≤ n) (b off cap : Nat) (zs : List Sw) (hreach : zs.length ≤ 1000) (t : Int) (w : World) (hb : b < w.heap.size)
    (hc : ∀ j s, zs[j]? = some s → w.rangeAt b (off + j * 5) (swC s)) (hex : ∃ p ∈ upto (bwd zs) zs.length, fits t p.2 = true) :
    CallsIn F n Tryz.prog 58 #[.slice (some ⟨b, off, none⟩) zs.length cap, .int .i64 t] w fun e W' =>
      (∃ (ini : List (Int × Sw)) (last : Int × Sw) (k : Nat), k ≤ zs.length ∧ upto (bwd zs) k = ini ++ [last] ∧ (∀ p ∈ ini, fits t p.2 = false) ∧ fits t last.2 = true ∧ e = .returned (.tuple #[swV last.2, .bool true])) ∧ Below w.heap.size w W' := by
  have h1 : 1 ≤ n := by omega
  refine callsIn_of_wp_marks Tryz.func58 rfl h14 ?_ hro
  simp only [Tryz.ntmps58, List.size_toArray, List.length_cons, List.length_nil, Nat.reduceAdd, Nat.reduceSub, Array.replicate_succ, Array.replicate_zero, List.push_toArray, List.append_toArray, List.nil_append, List.cons_append]
  gi_wp2_with (gi_at_call 104; refine (bw_in F (n - 1) h30 hro _ _ _ _).mono ?_; rintro e w' ⟨rfl, rfl⟩)
  have hB0 : Below w.heap.size w ((((w.alloc (Obj.cells #[Value.int IntKind.i64 t] 3)).alloc (Obj.cells #[Value.string ⟨#[]⟩, Value.string ⟨#[]⟩, Value.int IntKind.i64 0, Value.int IntKind.i64 0, Value.int IntKind.i64 0] 44)).alloc (Obj.cells #[Value.bool false] 4)).alloc (Obj.cells #[Value.slice (some ⟨b, off, none⟩) zs.length cap] 28)) :=
    ((((Below.refl _ w).alloc (Nat.le_refl _) _).alloc (by simp) _).alloc (by simp; omega) _).alloc (by simp; omega) _
  obtain ⟨W0, hW0⟩ : ∃ W0, ((((w.alloc (Obj.cells #[Value.int IntKind.i64 t] 3)).alloc (Obj.cells #[Value.string ⟨#[]⟩, Value.string ⟨#[]⟩, Value.int IntKind.i64 0, Value.int IntKind.i64 0, Value.int IntKind.i64 0] 44)).alloc (Obj.cells #[Value.bool false] 4)).alloc (Obj.cells #[Value.slice (some ⟨b, off, none⟩) zs.length cap] 28)) = W0 := ⟨_, rfl⟩
  have hsz : W0.heap.size = w.heap.size + 4 := by simp [← hW0]
  have k0 : W0.heap[w.heap.size]? = some (Obj.cells #[Value.int IntKind.i64 t] 3 (0, 0)) := by
    rw [← hW0, Below.heap_alloc _ _ _ (by simp; omega), Below.heap_alloc _ _ _ (by simp; omega), Below.heap_alloc _ _ _ (by simp)]
    exact World.alloc_heap_new _ _
  have k1 : W0.heap[w.heap.size + 1]? = some (Obj.cells #[Value.string ⟨#[]⟩, Value.string ⟨#[]⟩, Value.int IntKind.i64 0, Value.int IntKind.i64 0, Value.int IntKind.i64 0] 44 (0, 0)) := by
    rw [← hW0, Below.heap_alloc _ _ _ (by simp), Below.heap_alloc _ _ _ (by simp)]
    have := World.alloc_heap_new (w.alloc (Obj.cells #[Value.int IntKind.i64 t] 3)) (Obj.cells #[Value.string ⟨#[]⟩, Value.string ⟨#[]⟩, Value.int IntKind.i64 0, Value.int IntKind.i64 0, Value.int IntKind.i64 0] 44)
    rwa [World.size_alloc] at this
  have k2 : W0.heap[w.heap.size + 1 + 1]? = some (Obj.cells #[Value.bool false] 4 (0, 0)) := by
    rw [← hW0, Below.heap_alloc _ _ _ (by simp)]
    have := World.alloc_heap_new ((w.alloc (Obj.cells #[Value.int IntKind.i64 t] 3)).alloc (Obj.cells #[Value.string ⟨#[]⟩, Value.string ⟨#[]⟩, Value.int IntKind.i64 0, Value.int IntKind.i64 0, Value.int IntKind.i64 0] 44)) (Obj.cells #[Value.bool false] 4)
    rwa [World.size_alloc, World.size_alloc] at this
  have k3 : W0.heap[w.heap.size + 1 + 1 + 1]? = some (Obj.cells #[Value.slice (some ⟨b, off, none⟩) zs.length cap] 28 (0, 0)) := by
    rw [← hW0]
    have := World.alloc_heap_new (((w.alloc (Obj.cells #[Value.int IntKind.i64 t] 3)).alloc (Obj.cells #[Value.string ⟨#[]⟩, Value.string ⟨#[]⟩, Value.int IntKind.i64 0, Value.int IntKind.i64 0, Value.int IntKind.i64 0] 44)).alloc (Obj.cells #[Value.bool false] 4)) (Obj.cells #[Value.slice (some ⟨b, off, none⟩) zs.length cap] 28)
    rwa [World.size_alloc, World.size_alloc, World.size_alloc] at this
  rw [hW0] at hB0 ⊢
  clear hW0
  have c3 : W0.cell? ⟨w.heap.size + 1 + 1 + 1, 0, none⟩ = some (.slice (some ⟨b, off, none⟩) zs.length cap) := by simp [World.cell?, k3]
  refine wpIn_rangeFunc_ownH hro h1 (gf := 140) (lb := #[.pointer (some ⟨w.heap.size + 1 + 1 + 1, 0, none⟩)]) rfl h51 (enters_of Tryz.func140 (by kernel_rfl) rfl)
    (bw_stops F (n - 1) h51 hro (by omega) (w.heap.size + 1 + 1 + 1) (w.heap.size + 4) b off cap zs hreach W0 (by omega) (by omega) (by omega) c3 (fun j s hs i v hv => (hB0.cell (p := ⟨b, off + j * 5 + i, none⟩) hb).trans (hc j s hs i v hv))) belowK_t (belowK_b (by omega)) (Below.refl _ _) (fun _ => rfl)
    (fun pre W => (∀ p ∈ pre, fits t p.2 = false) ∧ Below (w.heap.size + 4) W0 W)
    (fun c pre W => (c = .ret ∧ ∃ (ini : List (Int × Sw)) (last : Int × Sw), pre = ini ++ [last] ∧ (∀ p ∈ ini, fits t p.2 = false) ∧ fits t last.2 = true ∧ (∀ j v, (swC last.2)[j]? = some v → W.cell? ⟨w.heap.size + 1, j, none⟩ = some v) ∧ W.cell? ⟨w.heap.size + 1 + 1, 0, none⟩ = some (.bool true)) ∧ Below w.heap.size w W)
    (OwnFrom.and (ownFrom_pure _ _) (ownFrom_below (by omega) (by omega)))
    (fun c => OwnFrom.and (Own.from (fun s A B row hs hg hr => by
      obtain ⟨hc, ini, last, e1, e2, e3, e4, e5⟩ := hs
      exact ⟨hc, ini, last, e1, e2, e3, fun j v hv => cell_kept (e4 j v hv) hg hr, cell_kept e5 hg hr⟩) _) (ownFrom_below (Nat.le_refl _) (by omega)))
    ⟨by simp, Below.refl _ _⟩
    (fun x a' W => ∃ Bx, w.heap.size + 4 ≤ Bx ∧ (∀ j v, (swC x.2)[j]? = some v → W.cell? ⟨Bx, j, none⟩ = some v) ∧ a' = { tmps := #[Value.slice (some ⟨b, off, none⟩) zs.length cap, Value.int IntKind.i64 t, undef, Value.pointer (some ⟨w.heap.size, 0, none⟩), Value.pointer (some ⟨w.heap.size + 1, 0, none⟩), Value.pointer (some ⟨w.heap.size + 1 + 1, 0, none⟩), undef, Value.pointer (some ⟨Bx, 0, none⟩), Value.slice (some ⟨b, off, none⟩) zs.length cap, Value.func (Fn.func 140) #[] #[Value.pointer (some ⟨w.heap.size + 1 + 1 + 1, 0, none⟩)], Value.int IntKind.i64 x.1, swV x.2, undef, undef, undef, undef, undef, undef, undef, undef, undef, undef, undef, undef], defers := [] })
    (fun x a' _ X Y row hs hg hr => by
      obtain ⟨Bx, g1, g2, g3⟩ := hs
      exact ⟨Bx, g1, fun j v hv => cell_kept (g2 j v hv) hg (fun r e => (hr r e).2), g3⟩)
    ?assign ?body ?done ?stop
  case assign =>
    rintro l pre x W K ⟨hp, hB⟩ hK
    have hsW := hB.size
    simp only [swV, swC]
    gi_wp2
    refine hK _ _ ((KeepsOthers.alloc _ _).from _) ((Below.refl _ W).alloc (by omega) _) ⟨hp, hB.alloc (by omega) _⟩ ⟨W.heap.size, by omega, fun j v hv => ?_, rfl⟩
    have hnew := World.alloc_heap_new W (Obj.cells #[Value.string x.2.id, Value.string x.2.sec, Value.int IntKind.i64 x.2.fr, Value.int IntKind.i64 x.2.to, Value.int IntKind.i64 x.2.un] 44)
    match j, hv with
    | 0, hv => cases hv; simp only [World.cell?]; rw [hnew]; rfl
    | 1, hv => cases hv; simp only [World.cell?]; rw [hnew]; rfl
    | 2, hv => cases hv; simp only [World.cell?]; rw [hnew]; rfl
    | 3, hv => cases hv; simp only [World.cell?]; rw [hnew]; rfl
    | 4, hv => cases hv; simp only [World.cell?]; rw [hnew]; rfl
    | j + 5, hv => simp [swC] at hv
  case body =>
    rintro l pre x a' W hl ⟨r, hr⟩ ⟨hp, hB⟩ ⟨Bx, hBx, hcx, rfl⟩ hlt
    have x0 : W.cell? ⟨Bx, 0, none⟩ = some (.string x.2.id) := hcx 0 _ rfl
    have x1 : W.cell? ⟨Bx, 1, none⟩ = some (.string x.2.sec) := hcx 1 _ rfl
    have x2 : W.cell? ⟨Bx, 2, none⟩ = some (.int .i64 x.2.fr) := hcx 2 _ rfl
    have x3 : W.cell? ⟨Bx, 3, none⟩ = some (.int .i64 x.2.to) := hcx 3 _ rfl
    have x4 : W.cell? ⟨Bx, 4, none⟩ = some (.int .i64 x.2.un) := hcx 4 _ rfl
    have e0 : W.heap[w.heap.size]? = _ := (hB.block _ (by omega)).trans k0
    have e1 : W.heap[w.heap.size + 1]? = _ := (hB.block _ (by omega)).trans k1
    have e2 : W.heap[w.heap.size + 1 + 1]? = _ := (hB.block _ (by omega)).trans k2
    have a0 : W.cell? ⟨w.heap.size, 0, none⟩ = some (.int .i64 t) := by simp [World.cell?, e0]
    have r0 : W.cell? ⟨w.heap.size + 1, 0, none⟩ = some (.string ⟨#[]⟩) := by simp [World.cell?, e1]
    have r1 : W.cell? ⟨w.heap.size + 1, 1, none⟩ = some (.string ⟨#[]⟩) := by simp [World.cell?, e1]
    have r2 : W.cell? ⟨w.heap.size + 1, 2, none⟩ = some (.int .i64 0) := by simp [World.cell?, e1]
    have r3 : W.cell? ⟨w.heap.size + 1, 3, none⟩ = some (.int .i64 0) := by simp [World.cell?, e1]
    have r4 : W.cell? ⟨w.heap.size + 1, 4, none⟩ = some (.int .i64 0) := by simp [World.cell?, e1]
    have b0 : W.cell? ⟨w.heap.size + 1 + 1, 0, none⟩ = some (.bool false) := by simp [World.cell?, e2]
    have f0 : W.frozen? ⟨w.heap.size + 1, 0, none⟩ = false := by simp [World.frozen?, e1]
    have f1 : W.frozen? ⟨w.heap.size + 1, 1, none⟩ = false := by simp [World.frozen?, e1]
    have f2 : W.frozen? ⟨w.heap.size + 1, 2, none⟩ = false := by simp [World.frozen?, e1]
    have f3 : W.frozen? ⟨w.heap.size + 1, 3, none⟩ = false := by simp [World.frozen?, e1]
    have f4 : W.frozen? ⟨w.heap.size + 1, 4, none⟩ = false := by simp [World.frozen?, e1]
    have g0 : W.frozen? ⟨w.heap.size + 1 + 1, 0, none⟩ = false := by simp [World.frozen?, e2]
    have hBw : Below w.heap.size w W := hB0.trans (hB.mono (by omega))
    gi_wp2
    · have hx : fits t x.2 = true := by simp [fits]; omega
      refine ⟨((((((KeepsOthers.setCell _ _ _).trans (KeepsOthers.setCell _ _ _)).trans (KeepsOthers.setCell _ _ _)).trans (KeepsOthers.setCell _ _ _)).trans (KeepsOthers.setCell _ _ _)).trans (KeepsOthers.setCell _ _ _)).from _, ⟨rfl, pre, x, rfl, hp, hx, fun j v hv => ?_, ?_⟩,
        (((((hBw.setCell (p := ⟨w.heap.size + 1, 0, none⟩) (by simp) _).setCell (p := ⟨w.heap.size + 1, 1, none⟩) (by simp) _).setCell (p := ⟨w.heap.size + 1, 2, none⟩) (by simp) _).setCell (p := ⟨w.heap.size + 1, 3, none⟩) (by simp) _).setCell (p := ⟨w.heap.size + 1, 4, none⟩) (by simp) _).setCell (p := ⟨w.heap.size + 1 + 1, 0, none⟩) (by simp; omega) _⟩
      · match j, hv with
        | 0, hv => cases hv; simp [go_sem, r0]
        | 1, hv => cases hv; simp [go_sem, r1]
        | 2, hv => cases hv; simp [go_sem, r2]
        | 3, hv => cases hv; simp [go_sem, r3]
        | 4, hv => cases hv; simp [go_sem, r4]
        | j + 5, hv => simp [swC] at hv
      · simp [go_sem, b0]
    · have hx : fits t x.2 = false := by simp [fits]; omega
      exact ⟨KeepsFrom.refl _ _, Below.refl _ _, fun p hp' => (List.mem_append.1 hp').elim (hp p) (fun e => by rw [List.mem_singleton.1 e]; exact hx), hB⟩
    · have hx : fits t x.2 = false := by simp [fits]; omega
      exact ⟨KeepsFrom.refl _ _, Below.refl _ _, fun a b' hp' => (List.mem_append.1 hp').elim (fun q => hp (a, b') q) (fun e => by
        have q := List.mem_singleton.1 e
        have : b' = x.2 := by rw [← q]
        rw [this]; exact hx), hB⟩
  case done =>
    rintro D ys W hD rfl ⟨hne, hB⟩ hK
    obtain ⟨p, h1, h2⟩ := hex
    rw [hne p h1] at h2
    cases h2
  case stop =>
    rintro D c pre W hD ⟨k, hk, rfl⟩ ⟨⟨rfl, ini, last, e1, e2, e3, e4, e5⟩, hB⟩ hK
    gi_wp2
    refine ⟨by simp, .inl ⟨_, _, rfl, run_takeDeferred hK, ?_⟩⟩
    have hq : ∀ j v, (swC last.2)[j]? = some v → _ := fun j v hv => cell_kept (e4 j v hv) (grownBy_putObj' _ D (.deferred none)) (fun r e => by cases e; exact ⟨_, hK, rfl⟩)
    have q5 := cell_kept e5 (grownBy_putObj' _ D (.deferred none)) (fun r e => by cases e; exact ⟨_, hK, rfl⟩)
    have q0 := hq 0 _ rfl
    have q1 := hq 1 _ rfl
    have q2 := hq 2 _ rfl
    have q3 := hq 3 _ rfl
    have q4 := hq 4 _ rfl
    refine ⟨.tuple #[swV last.2, .bool true], ?_, ⟨ini, last, k, hk, e1, e2, e3, rfl⟩, hB.trans (belowK_b (w := w) (Nat.le_refl _) W D _ _ (by omega) hK rfl rfl)⟩
    simp [results, Tryz.f58, go_sem, q0, q1, q2, q3, q4, q5, swV, swC]
end Go.Proofs.YtklednomnpghcaaGreatDoor
