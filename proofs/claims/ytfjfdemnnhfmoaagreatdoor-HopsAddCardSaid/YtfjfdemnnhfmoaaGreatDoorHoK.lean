/-
  Headers: slices.Backward over strings.
-/
import Derived.RangeFuncNested
import Derived.RangeFuncBound
import Derived.RangeFuncCalls
import Derived.RangeFuncLeaves
import Derived.RangeFuncBox
import Derived.Shelf.Abstract
import Derived.Shelf.RegionOpen
import Derived.WalkKit
import Derived.OwnWalkIn
import Derived.TacticsInMore
import Derived.LoopNIn
import Derived.LoopIn
import Derived.Test.YtfjfdemnnhfmoaaGreatDoorEvC
import Derived.Test.YtfjfdemnnhfmoaaGreatDoorProg
namespace Go.Proofs.YtfjfdemnnhfmoaaGreatDoor
open Go.Ev Go.RowKit Go.Shelf

attribute [local go_sem] Oper.semAt_some

def upto {α : Type} (f : Nat → α) (k : Nat) : List α := (List.range k).map f
theorem upto_succ {α : Type} (f : Nat → α) (k : Nat) : upto f (k + 1) = upto f k ++ [f k] := by simp [upto, List.range_succ]
theorem upto_length {α : Type} (f : Nat → α) (k : Nat) : (upto f k).length = k := by simp [upto]
/-- What comes in round j. -/
def bwd (zs : List ByteArray) (j : Nat) : Int × ByteArray := ((zs.length : Int) - 1 - (j : Int), zs[zs.length - 1 - j]?.getD ⟨#[]⟩)
/-- The box of the list and the list lie as they should. -/
def Good (Bs ob b off : Nat) (zs : List ByteArray) (W : World) : Prop :=
  (∃ cap, W.cell? ⟨Bs, ob, none⟩ = some (.slice (some ⟨b, off, none⟩) zs.length cap)) ∧ ∀ j s, zs[j]? = some s → W.cell? ⟨b, off + j, none⟩ = some (.string s)
set_option maxRecDepth 100000 in
set_option maxHeartbeats 2000000 in
theorem bw1_in (F : Fence) (n : Nat) (hf : F.fn 138) (hro : F.round = none) (hn : 1 ≤ n) (l Bs ob b off : Nat) (zs : List ByteArray) (hreach : zs.length ≤ 5000) (J Jx : List (Int × ByteArray) → World → Prop)
    (hY : ∀ pre x W, J pre W → pre.length < zs.length → YieldAt F (n - 1) Tryz.prog l #[.int .i64 x.1, .string x.2] W fun e W' =>
      (e = .returned (.bool true) ∧ J (pre ++ [x]) W' ∧ (Good Bs ob b off zs W → Good Bs ob b off zs W')) ∨ (e = .returned (.bool false) ∧ Jx (pre ++ [x]) W'))
    (W : World) (hG : Good Bs ob b off zs W) (h0 : J [] W) :
    CallsIn F n Tryz.prog 138 #[.func (.yield l) #[] #[], .pointer (some ⟨Bs, ob, none⟩)] W fun e W' => (∃ v, e = .returned v) ∧
      ((∃ ys, ys = upto (bwd zs) zs.length ∧ J ys W') ∨ (∃ pre, (∃ k, k ≤ zs.length ∧ pre = upto (bwd zs) k) ∧ Jx pre W')) := by
  refine callsIn_of_wp Tryz.func138 rfl hf ?_ hro
  simp only [Tryz.ntmps138, List.size_toArray, List.length_cons, List.length_nil, Nat.reduceAdd, Nat.reduceSub, Array.replicate_succ, Array.replicate_zero, List.push_toArray, List.append_toArray, List.nil_append, List.cons_append]
  obtain ⟨cap0, hBs⟩ := hG.1
  gi_wp2
  gi_loopw [3] (fun i wr => ∃ k : Nat, k ≤ zs.length ∧ i = .int .i64 ((zs.length : Int) - 1 - (k : Int)) ∧ J (upto (bwd zs) k) wr ∧ Good Bs ob b off zs wr)
    (fun i _ => (intOf i + 1).toNat)
  case atStart => exact ⟨0, Nat.zero_le _, by simp, h0, hG⟩
  case round =>
    obtain ⟨k, hk, rfl, hJs, hGw⟩ := hrel
    obtain ⟨cap, hBs'⟩ := hGw.1
    by_cases hlt : k < zs.length
    · obtain ⟨fn, tmps, assign, body, hy, hR⟩ := hY _ (bwd zs k) wr hJs (by rw [upto_length]; exact hlt)
      have hidx : zs.length - 1 - k < zs.length := by omega
      obtain ⟨s, hs, hbw⟩ : ∃ s, zs[zs.length - 1 - k]? = some s ∧ bwd zs k = ((zs.length : Int) - 1 - (k : Int), s) := ⟨zs[zs.length - 1 - k], List.getElem?_eq_getElem hidx, by simp [bwd, hidx]⟩
      rw [hbw] at hy
      dsimp only at hy
      have c0 : wr.cell? ⟨b, off + (zs.length - 1 - k), none⟩ = some (.string s) := hGw.2 _ s hs
      have c1 : wr.cell? ⟨b, off + (zs.length - 1 - k) * 1, none⟩ = some (.string s) := by rw [Nat.mul_one]; exact c0
      clear hs
      gi_wp2
      refine hR.mono ?_
      rintro e W3 (⟨rfl, hJ3, hk3⟩ | ⟨rfl, hJx3⟩)
      · gi_wp2
        go_roundw
        case rel => exact ⟨k + 1, by omega, by simp; omega, by rw [upto_succ]; exact hJ3, hk3 hGw⟩
        case measure => simp [intOf]; omega
      · gi_wp2
        refine bodyPost_ret (results_none rfl _ _ _) rfl ?_
        exact ⟨⟨_, rfl⟩, .inr ⟨_, ⟨k + 1, by omega, (upto_succ _ _).symm⟩, hJx3⟩⟩
    · obtain rfl : k = zs.length := by omega
      gi_wp2
      go_end0
      exact ⟨⟨_, rfl⟩, .inl ⟨_, rfl, hJs⟩⟩

theorem Good.below {Bs ob b off : Nat} {zs : List ByteArray} {w W : World} (hz : zs ≠ []) (hG : Good Bs ob b off zs w) (hB : Below w.heap.size w W) : Good Bs ob b off zs W := by
  have lt : ∀ {r i v}, w.cell? ⟨r, i, none⟩ = some v → r < w.heap.size := fun {r i v} h => by
    obtain ⟨o, ho, _⟩ := not_walk_of_cell h
    exact lt_of_some ho
  obtain ⟨⟨cap, h1⟩, h2⟩ := hG
  exact ⟨⟨cap, (hB.cell (p := ⟨Bs, ob, none⟩) (lt h1)).trans h1⟩, fun j s hs => (hB.cell (p := ⟨b, off + j, none⟩) (lt (h2 j s hs))).trans (h2 j s hs)⟩
theorem Good.put {Bs ob b off : Nat} {zs : List ByteArray} {W : World} {l : Nat} {o o' : Obj} (hl : W.heap[l]? = some o) (ho : o.isCells = false) (hG : Good Bs ob b off zs W) : Good Bs ob b off zs (W.putObj l o') := by
  have ne : ∀ {r i v}, W.cell? ⟨r, i, none⟩ = some v → r ≠ l := fun {r i v} h e => by
    subst e
    unfold World.cell? at h
    simp only at h
    rw [hl] at h
    cases o <;> simp_all [Obj.isCells]
  have keep : ∀ {r i v}, W.cell? ⟨r, i, none⟩ = some v → (W.putObj l o').cell? ⟨r, i, none⟩ = some v := fun {r i v} h => by
    have := ne h
    unfold World.cell? at h ⊢
    simp only at h ⊢
    rw [World.putObj_heap_other this]
    exact h
  exact ⟨hG.1.imp fun cap h => keep h, fun j s hs => keep (hG.2 j s hs)⟩
/-- The list's box and the list, as they lie in the abstract heap. -/
def bwI (B0 k c : Nat) (zs : List ByteArray) (h : AH) : Prop := h.get B0 = some (.cells ⟨[.slice (some ⟨k, 0, none⟩) zs.length c]⟩ 30 (0, 0)) ∧ h.get k = some (.cells ⟨zs.map Value.string⟩ 9 (0, 0))
theorem bwI_good {B0 k c : Nat} {zs : List ByteArray} {h : AH} {N : Emb} {W : World} {e0 ek : Ent} (hz : zs ≠ []) (hI : bwI B0 k c zs h) (hr : HRel Tryz.prog N h W) (h0 : N B0 = some e0) (hk : N k = some ek) : Good e0.r (e0.d + 0) ek.r (ek.d + 0) zs W := by
  obtain ⟨i1, i2⟩ := hI
  obtain ⟨e, o', he, hw, ho⟩ := hr.here _ _ i1
  rw [h0] at he
  cases he
  obtain ⟨c', fr', rfl, _, _, _, _, hv, _⟩ := ho
  obtain ⟨v', hv1, hv2⟩ := hv 0 _ rfl
  obtain ⟨e, o'', he, hwk, hok⟩ := hr.here _ _ i2
  rw [hk] at he
  cases he
  obtain ⟨ck, frk, rfl, _, _, _, _, hvk, _⟩ := hok
  obtain ⟨e, p', cap, _, he, _, _, hp, rfl⟩ := hv2.inv_slice
  rw [hk] at he
  cases he
  have hn : zs.length ≠ 0 := fun q => hz (List.length_eq_zero_iff.1 q)
  have hp : p' = ek.d + 0 := hp.resolve_left fun q => hn q.1
  subst hp
  refine ⟨⟨cap, ?_⟩, fun j s hs => ?_⟩
  · unfold World.cell?
    simp only
    rw [hw]
    exact hv1
  · obtain ⟨u, hu1, hu2⟩ := hvk j (.string s) (by simp [hs])
    rw [hu2.inv_string] at hu1
    unfold World.cell?
    simp only
    rw [hwk, Nat.add_zero]
    exact hu1
theorem bw_iter {p B0 k c : Nat} {zs : List ByteArray} {h : AH} (hz : zs ≠ []) (hl : zs.length ≤ 5000) (hI : bwI B0 k c zs h) :
    IterOK p Tryz.prog 138 #[.pointer (some ⟨B0, 0, none⟩)] h (bwI B0 k c zs) (fun x : Int × ByteArray => #[Value.int .i64 x.1, .string x.2]) (fun ys => ys = upto (bwd zs) zs.length) (fun pre => ∃ k, k ≤ zs.length ∧ pre = upto (bwd zs) k) zs.length := by
  intro n N w lb hn hlb hr hf
  obtain ⟨b0, hb0, hv0⟩ := CRel.get hlb (i := 0) rfl
  have hsz : lb.size = 1 := hlb.1.symm
  obtain ⟨e0, o0, he0, _, _⟩ := hr.here _ _ hI.1
  obtain ⟨ek, ok, hek, _, _⟩ := hr.here _ _ hI.2
  have hp : b0 = .pointer (some ⟨e0.r, e0.d + 0, none⟩) := by
    cases hv0 with
    | ptr b o sp e h => rw [h] at he0; cases he0; rfl
  have hlb' : lb = #[.pointer (some ⟨e0.r, e0.d + 0, none⟩)] := by
    apply Array.ext
    · simp [hsz]
    · intro i h1 h2
      have : i = 0 := by omega
      subst this
      rw [Array.getElem?_eq_getElem h1] at hb0
      injection hb0 with hb0
      simp [hb0, hp]
  subst hlb'
  have hG := bwI_good hz hI hr he0 hek
  refine ⟨Good e0.r (e0.d + 0) ek.r (ek.d + 0) zs, fun l J Jx W hW _ _ hY h0 => ?_, hG, fun N' h' W hr' hle hI' => bwI_good hz hI' hr' (hle _ _ he0) (hle _ _ hek), fun W l o o' hl' ho hG' => hG'.put hl' ho⟩
  exact bw1_in (wideR none) n trivial rfl (by omega) l _ _ _ _ zs hl J Jx hY W (hG.below hz hW) h0
end Go.Proofs.YtfjfdemnnhfmoaaGreatDoor
