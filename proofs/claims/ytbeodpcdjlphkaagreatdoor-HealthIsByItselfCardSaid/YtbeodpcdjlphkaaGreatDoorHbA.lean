/-
  Instances as they are drawn; the functions 'place' and 'CheckInstances' as specifications.
-/
import Derived.Test.YtbeodpcdjlphkaaGreatDoorRight
namespace Go.Proofs.YtbeodpcdjlphkaaGreatDoor
open Go.Ev Go.RowKit

/-- The instances that are drawn, and where the stream stands then. -/
noncomputable def riR (xs : Array Value) : List (ByteArray × Int) × Int := if nextR xs 0 4 = 0 then if nextR xs 1 4 = 0 then if nextR xs 2 4 = 0 then ([(⟨#[105, 100]⟩, wtV (nextR xs 3 5))], 4) else if nextR xs 4 4 = 0 then ([(⟨#[105, 99]⟩, wtV (nextR xs 3 5))], 5) else ([(⟨#[105, 99]⟩, wtV (nextR xs 3 5)), (⟨#[105, 100]⟩, wtV (nextR xs 5 5))], 6) else if nextR xs 3 4 = 0 then if nextR xs 4 4 = 0 then ([(⟨#[105, 98]⟩, wtV (nextR xs 2 5))], 5) else ([(⟨#[105, 98]⟩, wtV (nextR xs 2 5)), (⟨#[105, 100]⟩, wtV (nextR xs 5 5))], 6) else if nextR xs 5 4 = 0 then ([(⟨#[105, 98]⟩, wtV (nextR xs 2 5)), (⟨#[105, 99]⟩, wtV (nextR xs 4 5))], 6) else ([(⟨#[105, 98]⟩, wtV (nextR xs 2 5)), (⟨#[105, 99]⟩, wtV (nextR xs 4 5)), (⟨#[105, 100]⟩, wtV (nextR xs 6 5))], 7) else if nextR xs 2 4 = 0 then if nextR xs 3 4 = 0 then if nextR xs 4 4 = 0 then ([(⟨#[105, 97]⟩, wtV (nextR xs 1 5))], 5) else ([(⟨#[105, 97]⟩, wtV (nextR xs 1 5)), (⟨#[105, 100]⟩, wtV (nextR xs 5 5))], 6) else if nextR xs 5 4 = 0 then ([(⟨#[105, 97]⟩, wtV (nextR xs 1 5)), (⟨#[105, 99]⟩, wtV (nextR xs 4 5))], 6) else ([(⟨#[105, 97]⟩, wtV (nextR xs 1 5)), (⟨#[105, 99]⟩, wtV (nextR xs 4 5)), (⟨#[105, 100]⟩, wtV (nextR xs 6 5))], 7) else if nextR xs 4 4 = 0 then if nextR xs 5 4 = 0 then ([(⟨#[105, 97]⟩, wtV (nextR xs 1 5)), (⟨#[105, 98]⟩, wtV (nextR xs 3 5))], 6) else ([(⟨#[105, 97]⟩, wtV (nextR xs 1 5)), (⟨#[105, 98]⟩, wtV (nextR xs 3 5)), (⟨#[105, 100]⟩, wtV (nextR xs 6 5))], 7) else if nextR xs 6 4 = 0 then ([(⟨#[105, 97]⟩, wtV (nextR xs 1 5)), (⟨#[105, 98]⟩, wtV (nextR xs 3 5)), (⟨#[105, 99]⟩, wtV (nextR xs 5 5))], 7) else ([(⟨#[105, 97]⟩, wtV (nextR xs 1 5)), (⟨#[105, 98]⟩, wtV (nextR xs 3 5)), (⟨#[105, 99]⟩, wtV (nextR xs 5 5)), (⟨#[105, 100]⟩, wtV (nextR xs 7 5))], 8)
theorem ri_fn (zs : List Int) : FnOK 1 Tryz.prog 5 ⟨[.pointer (some ⟨0, 0, none⟩)]⟩ (Ev.h1 (strm (intsV zs) 0)) (fun u g => u = fz ⟨(riR (intsV zs)).1.map instV⟩ ∧ g.get 0 = some (strm (intsV zs) (riR (intsV zs)).2)) := by
  by_cases g0 : nextR (intsV zs) 0 4 = 0
  · by_cases g1 : nextR (intsV zs) 1 4 = 0
    · by_cases g2 : nextR (intsV zs) 2 4 = 0
      · rw [riR, if_pos g0, if_pos g1, if_pos g2]
        exact right0001 zs g0 g1 g2
      · by_cases g4 : nextR (intsV zs) 4 4 = 0
        · rw [riR, if_pos g0, if_pos g1, if_neg g2, if_pos g4]
          exact right0010 zs g0 g1 g2 g4
        · rw [riR, if_pos g0, if_pos g1, if_neg g2, if_neg g4]
          exact right0011 zs g0 g1 g2 g4
    · by_cases g3 : nextR (intsV zs) 3 4 = 0
      · by_cases g4 : nextR (intsV zs) 4 4 = 0
        · rw [riR, if_pos g0, if_neg g1, if_pos g3, if_pos g4]
          exact right0100 zs g0 g1 g3 g4
        · rw [riR, if_pos g0, if_neg g1, if_pos g3, if_neg g4]
          exact right0101 zs g0 g1 g3 g4
      · by_cases g5 : nextR (intsV zs) 5 4 = 0
        · rw [riR, if_pos g0, if_neg g1, if_neg g3, if_pos g5]
          exact right0110 zs g0 g1 g3 g5
        · rw [riR, if_pos g0, if_neg g1, if_neg g3, if_neg g5]
          exact right0111 zs g0 g1 g3 g5
  · by_cases g2 : nextR (intsV zs) 2 4 = 0
    · by_cases g3 : nextR (intsV zs) 3 4 = 0
      · by_cases g4 : nextR (intsV zs) 4 4 = 0
        · rw [riR, if_neg g0, if_pos g2, if_pos g3, if_pos g4]
          exact right1000 zs g0 g2 g3 g4
        · rw [riR, if_neg g0, if_pos g2, if_pos g3, if_neg g4]
          exact right1001 zs g0 g2 g3 g4
      · by_cases g5 : nextR (intsV zs) 5 4 = 0
        · rw [riR, if_neg g0, if_pos g2, if_neg g3, if_pos g5]
          exact right1010 zs g0 g2 g3 g5
        · rw [riR, if_neg g0, if_pos g2, if_neg g3, if_neg g5]
          exact right1011 zs g0 g2 g3 g5
    · by_cases g4 : nextR (intsV zs) 4 4 = 0
      · by_cases g5 : nextR (intsV zs) 5 4 = 0
        · rw [riR, if_neg g0, if_neg g2, if_pos g4, if_pos g5]
          exact right1100 zs g0 g2 g4 g5
        · rw [riR, if_neg g0, if_neg g2, if_pos g4, if_neg g5]
          exact right1101 zs g0 g2 g4 g5
      · by_cases g6 : nextR (intsV zs) 6 4 = 0
        · rw [riR, if_neg g0, if_neg g2, if_neg g4, if_pos g6]
          exact right1110 zs g0 g2 g4 g6
        · rw [riR, if_neg g0, if_neg g2, if_neg g4, if_neg g6]
          exact right1111 zs g0 g2 g4 g6
def keyI : List (List ByteArray) := [[⟨#[105, 97]⟩], [⟨#[105, 98]⟩], [⟨#[105, 99]⟩], [⟨#[105, 100]⟩], [⟨#[105, 97]⟩, ⟨#[105, 98]⟩], [⟨#[105, 97]⟩, ⟨#[105, 99]⟩], [⟨#[105, 97]⟩, ⟨#[105, 100]⟩], [⟨#[105, 98]⟩, ⟨#[105, 99]⟩], [⟨#[105, 98]⟩, ⟨#[105, 100]⟩], [⟨#[105, 99]⟩, ⟨#[105, 100]⟩], [⟨#[105, 97]⟩, ⟨#[105, 98]⟩, ⟨#[105, 99]⟩], [⟨#[105, 97]⟩, ⟨#[105, 98]⟩, ⟨#[105, 100]⟩], [⟨#[105, 97]⟩, ⟨#[105, 99]⟩, ⟨#[105, 100]⟩], [⟨#[105, 98]⟩, ⟨#[105, 99]⟩, ⟨#[105, 100]⟩], [⟨#[105, 97]⟩, ⟨#[105, 98]⟩, ⟨#[105, 99]⟩, ⟨#[105, 100]⟩]]
def Iok (L : List (ByteArray × Int)) : Prop := L.map Prod.fst ∈ keyI ∧ ∀ p ∈ L, 1 ≤ p.2 ∧ p.2 ≤ 5
theorem wt_at (zs : List Int) (d : Int) (h0 : 0 ≤ d) (h1 : d ≤ 1000000) : 1 ≤ wtV (nextR (intsV zs) d 5) ∧ wtV (nextR (intsV zs) d 5) ≤ 5 := by
  have hb := (nextR_spec zs 5 d h0 h1 (by omega) (by omega)).1
  have : nextR (intsV zs) d 5 = 0 ∨ nextR (intsV zs) d 5 = 1 ∨ nextR (intsV zs) d 5 = 2 ∨ nextR (intsV zs) d 5 = 3 ∨ nextR (intsV zs) d 5 = 4 := by omega
  rcases this with h | h | h | h | h <;> rw [h] <;> decide
theorem riR_ok (zs : List Int) : Iok (riR (intsV zs)).1 ∧ 0 ≤ (riR (intsV zs)).2 ∧ (riR (intsV zs)).2 ≤ 10 := by
  by_cases g0 : nextR (intsV zs) 0 4 = 0
  · by_cases g1 : nextR (intsV zs) 1 4 = 0
    · by_cases g2 : nextR (intsV zs) 2 4 = 0
      · rw [riR, if_pos g0, if_pos g1, if_pos g2]
        have b3 := wt_at zs 3 (by omega) (by omega)
        refine ⟨⟨by simp [keyI], fun p hp => ?_⟩, show (0 : Int) ≤ 4 by decide, show (4 : Int) ≤ 10 by decide⟩
        simp only [List.mem_cons, List.not_mem_nil, or_false] at hp
        subst hp
        exact b3
      · by_cases g4 : nextR (intsV zs) 4 4 = 0
        · rw [riR, if_pos g0, if_pos g1, if_neg g2, if_pos g4]
          have b3 := wt_at zs 3 (by omega) (by omega)
          refine ⟨⟨by simp [keyI], fun p hp => ?_⟩, show (0 : Int) ≤ 5 by decide, show (5 : Int) ≤ 10 by decide⟩
          simp only [List.mem_cons, List.not_mem_nil, or_false] at hp
          subst hp
          exact b3
        · rw [riR, if_pos g0, if_pos g1, if_neg g2, if_neg g4]
          have b3 := wt_at zs 3 (by omega) (by omega)
          have b5 := wt_at zs 5 (by omega) (by omega)
          refine ⟨⟨by simp [keyI], fun p hp => ?_⟩, show (0 : Int) ≤ 6 by decide, show (6 : Int) ≤ 10 by decide⟩
          simp only [List.mem_cons, List.not_mem_nil, or_false] at hp
          rcases hp with rfl | rfl
          · exact b3
          · exact b5
    · by_cases g3 : nextR (intsV zs) 3 4 = 0
      · by_cases g4 : nextR (intsV zs) 4 4 = 0
        · rw [riR, if_pos g0, if_neg g1, if_pos g3, if_pos g4]
          have b2 := wt_at zs 2 (by omega) (by omega)
          refine ⟨⟨by simp [keyI], fun p hp => ?_⟩, show (0 : Int) ≤ 5 by decide, show (5 : Int) ≤ 10 by decide⟩
          simp only [List.mem_cons, List.not_mem_nil, or_false] at hp
          subst hp
          exact b2
        · rw [riR, if_pos g0, if_neg g1, if_pos g3, if_neg g4]
          have b2 := wt_at zs 2 (by omega) (by omega)
          have b5 := wt_at zs 5 (by omega) (by omega)
          refine ⟨⟨by simp [keyI], fun p hp => ?_⟩, show (0 : Int) ≤ 6 by decide, show (6 : Int) ≤ 10 by decide⟩
          simp only [List.mem_cons, List.not_mem_nil, or_false] at hp
          rcases hp with rfl | rfl
          · exact b2
          · exact b5
      · by_cases g5 : nextR (intsV zs) 5 4 = 0
        · rw [riR, if_pos g0, if_neg g1, if_neg g3, if_pos g5]
          have b2 := wt_at zs 2 (by omega) (by omega)
          have b4 := wt_at zs 4 (by omega) (by omega)
          refine ⟨⟨by simp [keyI], fun p hp => ?_⟩, show (0 : Int) ≤ 6 by decide, show (6 : Int) ≤ 10 by decide⟩
          simp only [List.mem_cons, List.not_mem_nil, or_false] at hp
          rcases hp with rfl | rfl
          · exact b2
          · exact b4
        · rw [riR, if_pos g0, if_neg g1, if_neg g3, if_neg g5]
          have b2 := wt_at zs 2 (by omega) (by omega)
          have b4 := wt_at zs 4 (by omega) (by omega)
          have b6 := wt_at zs 6 (by omega) (by omega)
          refine ⟨⟨by simp [keyI], fun p hp => ?_⟩, show (0 : Int) ≤ 7 by decide, show (7 : Int) ≤ 10 by decide⟩
          simp only [List.mem_cons, List.not_mem_nil, or_false] at hp
          rcases hp with rfl | rfl | rfl
          · exact b2
          · exact b4
          · exact b6
  · by_cases g2 : nextR (intsV zs) 2 4 = 0
    · by_cases g3 : nextR (intsV zs) 3 4 = 0
      · by_cases g4 : nextR (intsV zs) 4 4 = 0
        · rw [riR, if_neg g0, if_pos g2, if_pos g3, if_pos g4]
          have b1 := wt_at zs 1 (by omega) (by omega)
          refine ⟨⟨by simp [keyI], fun p hp => ?_⟩, show (0 : Int) ≤ 5 by decide, show (5 : Int) ≤ 10 by decide⟩
          simp only [List.mem_cons, List.not_mem_nil, or_false] at hp
          subst hp
          exact b1
        · rw [riR, if_neg g0, if_pos g2, if_pos g3, if_neg g4]
          have b1 := wt_at zs 1 (by omega) (by omega)
          have b5 := wt_at zs 5 (by omega) (by omega)
          refine ⟨⟨by simp [keyI], fun p hp => ?_⟩, show (0 : Int) ≤ 6 by decide, show (6 : Int) ≤ 10 by decide⟩
          simp only [List.mem_cons, List.not_mem_nil, or_false] at hp
          rcases hp with rfl | rfl
          · exact b1
          · exact b5
      · by_cases g5 : nextR (intsV zs) 5 4 = 0
        · rw [riR, if_neg g0, if_pos g2, if_neg g3, if_pos g5]
          have b1 := wt_at zs 1 (by omega) (by omega)
          have b4 := wt_at zs 4 (by omega) (by omega)
          refine ⟨⟨by simp [keyI], fun p hp => ?_⟩, show (0 : Int) ≤ 6 by decide, show (6 : Int) ≤ 10 by decide⟩
          simp only [List.mem_cons, List.not_mem_nil, or_false] at hp
          rcases hp with rfl | rfl
          · exact b1
          · exact b4
        · rw [riR, if_neg g0, if_pos g2, if_neg g3, if_neg g5]
          have b1 := wt_at zs 1 (by omega) (by omega)
          have b4 := wt_at zs 4 (by omega) (by omega)
          have b6 := wt_at zs 6 (by omega) (by omega)
          refine ⟨⟨by simp [keyI], fun p hp => ?_⟩, show (0 : Int) ≤ 7 by decide, show (7 : Int) ≤ 10 by decide⟩
          simp only [List.mem_cons, List.not_mem_nil, or_false] at hp
          rcases hp with rfl | rfl | rfl
          · exact b1
          · exact b4
          · exact b6
    · by_cases g4 : nextR (intsV zs) 4 4 = 0
      · by_cases g5 : nextR (intsV zs) 5 4 = 0
        · rw [riR, if_neg g0, if_neg g2, if_pos g4, if_pos g5]
          have b1 := wt_at zs 1 (by omega) (by omega)
          have b3 := wt_at zs 3 (by omega) (by omega)
          refine ⟨⟨by simp [keyI], fun p hp => ?_⟩, show (0 : Int) ≤ 6 by decide, show (6 : Int) ≤ 10 by decide⟩
          simp only [List.mem_cons, List.not_mem_nil, or_false] at hp
          rcases hp with rfl | rfl
          · exact b1
          · exact b3
        · rw [riR, if_neg g0, if_neg g2, if_pos g4, if_neg g5]
          have b1 := wt_at zs 1 (by omega) (by omega)
          have b3 := wt_at zs 3 (by omega) (by omega)
          have b6 := wt_at zs 6 (by omega) (by omega)
          refine ⟨⟨by simp [keyI], fun p hp => ?_⟩, show (0 : Int) ≤ 7 by decide, show (7 : Int) ≤ 10 by decide⟩
          simp only [List.mem_cons, List.not_mem_nil, or_false] at hp
          rcases hp with rfl | rfl | rfl
          · exact b1
          · exact b3
          · exact b6
      · by_cases g6 : nextR (intsV zs) 6 4 = 0
        · rw [riR, if_neg g0, if_neg g2, if_neg g4, if_pos g6]
          have b1 := wt_at zs 1 (by omega) (by omega)
          have b3 := wt_at zs 3 (by omega) (by omega)
          have b5 := wt_at zs 5 (by omega) (by omega)
          refine ⟨⟨by simp [keyI], fun p hp => ?_⟩, show (0 : Int) ≤ 7 by decide, show (7 : Int) ≤ 10 by decide⟩
          simp only [List.mem_cons, List.not_mem_nil, or_false] at hp
          rcases hp with rfl | rfl | rfl
          · exact b1
          · exact b3
          · exact b5
        · rw [riR, if_neg g0, if_neg g2, if_neg g4, if_neg g6]
          have b1 := wt_at zs 1 (by omega) (by omega)
          have b3 := wt_at zs 3 (by omega) (by omega)
          have b5 := wt_at zs 5 (by omega) (by omega)
          have b7 := wt_at zs 7 (by omega) (by omega)
          refine ⟨⟨by simp [keyI], fun p hp => ?_⟩, show (0 : Int) ≤ 8 by decide, show (8 : Int) ≤ 10 by decide⟩
          simp only [List.mem_cons, List.not_mem_nil, or_false] at hp
          rcases hp with rfl | rfl | rfl | rfl
          · exact b1
          · exact b3
          · exact b5
          · exact b7
open Classical in
noncomputable def okI (vs : List Value) : Bool := decide (∃ L, Iok L ∧ vs = L.map instV)
open Classical in
theorem okI_iff {vs : List Value} : okI vs = true ↔ ∃ L, Iok L ∧ vs = L.map instV := by unfold okI; exact decide_eq_true_iff
noncomputable def spRI (f : FuncId) (args : Array Value) (h : AH) : Option (Bool × Value × AH) :=
  cond (Nat.beq f 5) (match args with
    | ⟨[.pointer (some ⟨b, 0, none⟩)]⟩ => match h.get b with
      | some (.cells ⟨[.func (.yield 0) xs ⟨[]⟩, .int .i64 at_]⟩ t (0, 0)) =>
        some (Nat.beq t 25 && decide (at_ = 0) && allInts xs, fz ⟨(riR xs).1.map instV⟩, h.set b (.cells ⟨[fz xs, .int .i64 (riR xs).2]⟩ 25 (0, 0)))
      | _ => none
    | _ => none) none
theorem spRI_ok : SpOK spRI := by
  intro f args h v h' hs
  unfold spRI at hs
  obtain ⟨hf, hs2⟩ := cond_some hs
  clear hs
  have := Nat.eq_of_beq_eq_true hf
  subst this
  split at hs2
  · split at hs2
    · rename_i xs at_ t hg
      injection hs2 with hs
      injection hs with hb hs
      injection hs with hv hh
      subst hv hh
      simp only [Bool.and_eq_true, decide_eq_true_eq] at hb
      obtain ⟨⟨b0, b1⟩, b3⟩ := hb
      have b0 := Nat.eq_of_beq_eq_true b0
      subst b0 b1
      obtain ⟨zs, rfl⟩ := intsV_of_all b3
      refine ⟨?_, Nat.le_refl _⟩
      exact FnOK.ref (cs := ⟨[fz (intsV zs), .int .i64 0]⟩) (cs' := ⟨[fz (intsV zs), .int .i64 (riR (intsV zs)).2]⟩) (args := []) (ri_fn zs) rfl (by simp [p1, fz]) (by simp [p1, fz]) rfl hg
    · cases hs2
  · cases hs2
theorem i1 {L : List (ByteArray × Int)} {a : ByteArray} {l : List ByteArray} (h : L.map Prod.fst = a :: l) : ∃ w L', L = (a, w) :: L' ∧ L'.map Prod.fst = l := by
  obtain ⟨p, l', e1, e2, e3⟩ := List.map_eq_cons_iff.1 h
  obtain ⟨k, w⟩ := p
  simp only at e2
  subst e2
  exact ⟨w, l', e1, e3⟩
theorem i0 {L : List (ByteArray × Int)} (h : L.map Prod.fst = []) : L = [] := List.map_eq_nil_iff.1 h
/-- Where a key stands among the six that are asked for. -/
def keysP : List ByteArray := [⟨#[]⟩, ⟨#[105, 97]⟩, ⟨#[105, 98]⟩, ⟨#[105, 99]⟩, ⟨#[105, 100]⟩, ⟨#[110, 111, 110, 101]⟩]
def inPK (k : ByteArray) : Bool := keysP.any fun a => beqN (natsOf a) (natsOf k)
def ordK (k : ByteArray) : Nat := (keysP.takeWhile fun a => !beqN (natsOf a) (natsOf k)).length
def plI (ks : List ByteArray) (k : ByteArray) : Int := ((ks.filter fun a => Nat.blt (ordK a) (ordK k)).length : Int)
def plF (ks : List ByteArray) (k : ByteArray) : Bool := ks.any fun a => beqN (natsOf a) (natsOf k)
def keyV : Value → ByteArray
  | .agg ⟨.string k :: _⟩ => k
  | _ => ⟨#[]⟩
theorem keyV_map (L : List (ByteArray × Int)) : (L.map instV).map keyV = L.map Prod.fst := by
  rw [List.map_map]; rfl
def SA0 : SC := ⟨idn, fun _ _ _ => none, false, false⟩
theorem SA0_ok : SA0.cfg.OK Tryz.prog := none_ok.cfg
theorem somePL : Tryz.f29.body.isSome = true := by kernel_rfl
theorem someCI : Tryz.f27.body.isSome = true := by kernel_rfl
theorem pl0_0 (w0 : Int) (Q : Value → Prop) : ffn Tryz.prog SA0 [] 2000 [] Tryz.f29 [fz ⟨[.agg ⟨[.string ⟨#[105, 97]⟩, .int .i64 w0]⟩]⟩, .string ⟨#[]⟩] h0 (fun v _ => Q v) = Q (.tuple ⟨[.int .i64 0, .bool false]⟩) := by kernel_rfl
theorem pl0_1 (w0 : Int) (Q : Value → Prop) : ffn Tryz.prog SA0 [] 2000 [] Tryz.f29 [fz ⟨[.agg ⟨[.string ⟨#[105, 97]⟩, .int .i64 w0]⟩]⟩, .string ⟨#[105, 97]⟩] h0 (fun v _ => Q v) = Q (.tuple ⟨[.int .i64 0, .bool true]⟩) := by kernel_rfl
theorem pl0_2 (w0 : Int) (Q : Value → Prop) : ffn Tryz.prog SA0 [] 2000 [] Tryz.f29 [fz ⟨[.agg ⟨[.string ⟨#[105, 97]⟩, .int .i64 w0]⟩]⟩, .string ⟨#[105, 98]⟩] h0 (fun v _ => Q v) = Q (.tuple ⟨[.int .i64 1, .bool false]⟩) := by kernel_rfl
theorem pl0_3 (w0 : Int) (Q : Value → Prop) : ffn Tryz.prog SA0 [] 2000 [] Tryz.f29 [fz ⟨[.agg ⟨[.string ⟨#[105, 97]⟩, .int .i64 w0]⟩]⟩, .string ⟨#[105, 99]⟩] h0 (fun v _ => Q v) = Q (.tuple ⟨[.int .i64 1, .bool false]⟩) := by kernel_rfl
theorem pl0_4 (w0 : Int) (Q : Value → Prop) : ffn Tryz.prog SA0 [] 2000 [] Tryz.f29 [fz ⟨[.agg ⟨[.string ⟨#[105, 97]⟩, .int .i64 w0]⟩]⟩, .string ⟨#[105, 100]⟩] h0 (fun v _ => Q v) = Q (.tuple ⟨[.int .i64 1, .bool false]⟩) := by kernel_rfl
theorem pl0_5 (w0 : Int) (Q : Value → Prop) : ffn Tryz.prog SA0 [] 2000 [] Tryz.f29 [fz ⟨[.agg ⟨[.string ⟨#[105, 97]⟩, .int .i64 w0]⟩]⟩, .string ⟨#[110, 111, 110, 101]⟩] h0 (fun v _ => Q v) = Q (.tuple ⟨[.int .i64 1, .bool false]⟩) := by kernel_rfl
theorem pl1_0 (w1 : Int) (Q : Value → Prop) : ffn Tryz.prog SA0 [] 2000 [] Tryz.f29 [fz ⟨[.agg ⟨[.string ⟨#[105, 98]⟩, .int .i64 w1]⟩]⟩, .string ⟨#[]⟩] h0 (fun v _ => Q v) = Q (.tuple ⟨[.int .i64 0, .bool false]⟩) := by kernel_rfl
theorem pl1_1 (w1 : Int) (Q : Value → Prop) : ffn Tryz.prog SA0 [] 2000 [] Tryz.f29 [fz ⟨[.agg ⟨[.string ⟨#[105, 98]⟩, .int .i64 w1]⟩]⟩, .string ⟨#[105, 97]⟩] h0 (fun v _ => Q v) = Q (.tuple ⟨[.int .i64 0, .bool false]⟩) := by kernel_rfl
theorem pl1_2 (w1 : Int) (Q : Value → Prop) : ffn Tryz.prog SA0 [] 2000 [] Tryz.f29 [fz ⟨[.agg ⟨[.string ⟨#[105, 98]⟩, .int .i64 w1]⟩]⟩, .string ⟨#[105, 98]⟩] h0 (fun v _ => Q v) = Q (.tuple ⟨[.int .i64 0, .bool true]⟩) := by kernel_rfl
theorem pl1_3 (w1 : Int) (Q : Value → Prop) : ffn Tryz.prog SA0 [] 2000 [] Tryz.f29 [fz ⟨[.agg ⟨[.string ⟨#[105, 98]⟩, .int .i64 w1]⟩]⟩, .string ⟨#[105, 99]⟩] h0 (fun v _ => Q v) = Q (.tuple ⟨[.int .i64 1, .bool false]⟩) := by kernel_rfl
theorem pl1_4 (w1 : Int) (Q : Value → Prop) : ffn Tryz.prog SA0 [] 2000 [] Tryz.f29 [fz ⟨[.agg ⟨[.string ⟨#[105, 98]⟩, .int .i64 w1]⟩]⟩, .string ⟨#[105, 100]⟩] h0 (fun v _ => Q v) = Q (.tuple ⟨[.int .i64 1, .bool false]⟩) := by kernel_rfl
theorem pl1_5 (w1 : Int) (Q : Value → Prop) : ffn Tryz.prog SA0 [] 2000 [] Tryz.f29 [fz ⟨[.agg ⟨[.string ⟨#[105, 98]⟩, .int .i64 w1]⟩]⟩, .string ⟨#[110, 111, 110, 101]⟩] h0 (fun v _ => Q v) = Q (.tuple ⟨[.int .i64 1, .bool false]⟩) := by kernel_rfl
theorem pl2_0 (w2 : Int) (Q : Value → Prop) : ffn Tryz.prog SA0 [] 2000 [] Tryz.f29 [fz ⟨[.agg ⟨[.string ⟨#[105, 99]⟩, .int .i64 w2]⟩]⟩, .string ⟨#[]⟩] h0 (fun v _ => Q v) = Q (.tuple ⟨[.int .i64 0, .bool false]⟩) := by kernel_rfl
theorem pl2_1 (w2 : Int) (Q : Value → Prop) : ffn Tryz.prog SA0 [] 2000 [] Tryz.f29 [fz ⟨[.agg ⟨[.string ⟨#[105, 99]⟩, .int .i64 w2]⟩]⟩, .string ⟨#[105, 97]⟩] h0 (fun v _ => Q v) = Q (.tuple ⟨[.int .i64 0, .bool false]⟩) := by kernel_rfl
theorem pl2_2 (w2 : Int) (Q : Value → Prop) : ffn Tryz.prog SA0 [] 2000 [] Tryz.f29 [fz ⟨[.agg ⟨[.string ⟨#[105, 99]⟩, .int .i64 w2]⟩]⟩, .string ⟨#[105, 98]⟩] h0 (fun v _ => Q v) = Q (.tuple ⟨[.int .i64 0, .bool false]⟩) := by kernel_rfl
theorem pl2_3 (w2 : Int) (Q : Value → Prop) : ffn Tryz.prog SA0 [] 2000 [] Tryz.f29 [fz ⟨[.agg ⟨[.string ⟨#[105, 99]⟩, .int .i64 w2]⟩]⟩, .string ⟨#[105, 99]⟩] h0 (fun v _ => Q v) = Q (.tuple ⟨[.int .i64 0, .bool true]⟩) := by kernel_rfl
theorem pl2_4 (w2 : Int) (Q : Value → Prop) : ffn Tryz.prog SA0 [] 2000 [] Tryz.f29 [fz ⟨[.agg ⟨[.string ⟨#[105, 99]⟩, .int .i64 w2]⟩]⟩, .string ⟨#[105, 100]⟩] h0 (fun v _ => Q v) = Q (.tuple ⟨[.int .i64 1, .bool false]⟩) := by kernel_rfl
theorem pl2_5 (w2 : Int) (Q : Value → Prop) : ffn Tryz.prog SA0 [] 2000 [] Tryz.f29 [fz ⟨[.agg ⟨[.string ⟨#[105, 99]⟩, .int .i64 w2]⟩]⟩, .string ⟨#[110, 111, 110, 101]⟩] h0 (fun v _ => Q v) = Q (.tuple ⟨[.int .i64 1, .bool false]⟩) := by kernel_rfl
theorem pl3_0 (w3 : Int) (Q : Value → Prop) : ffn Tryz.prog SA0 [] 2000 [] Tryz.f29 [fz ⟨[.agg ⟨[.string ⟨#[105, 100]⟩, .int .i64 w3]⟩]⟩, .string ⟨#[]⟩] h0 (fun v _ => Q v) = Q (.tuple ⟨[.int .i64 0, .bool false]⟩) := by kernel_rfl
theorem pl3_1 (w3 : Int) (Q : Value → Prop) : ffn Tryz.prog SA0 [] 2000 [] Tryz.f29 [fz ⟨[.agg ⟨[.string ⟨#[105, 100]⟩, .int .i64 w3]⟩]⟩, .string ⟨#[105, 97]⟩] h0 (fun v _ => Q v) = Q (.tuple ⟨[.int .i64 0, .bool false]⟩) := by kernel_rfl
theorem pl3_2 (w3 : Int) (Q : Value → Prop) : ffn Tryz.prog SA0 [] 2000 [] Tryz.f29 [fz ⟨[.agg ⟨[.string ⟨#[105, 100]⟩, .int .i64 w3]⟩]⟩, .string ⟨#[105, 98]⟩] h0 (fun v _ => Q v) = Q (.tuple ⟨[.int .i64 0, .bool false]⟩) := by kernel_rfl
theorem pl3_3 (w3 : Int) (Q : Value → Prop) : ffn Tryz.prog SA0 [] 2000 [] Tryz.f29 [fz ⟨[.agg ⟨[.string ⟨#[105, 100]⟩, .int .i64 w3]⟩]⟩, .string ⟨#[105, 99]⟩] h0 (fun v _ => Q v) = Q (.tuple ⟨[.int .i64 0, .bool false]⟩) := by kernel_rfl
theorem pl3_4 (w3 : Int) (Q : Value → Prop) : ffn Tryz.prog SA0 [] 2000 [] Tryz.f29 [fz ⟨[.agg ⟨[.string ⟨#[105, 100]⟩, .int .i64 w3]⟩]⟩, .string ⟨#[105, 100]⟩] h0 (fun v _ => Q v) = Q (.tuple ⟨[.int .i64 0, .bool true]⟩) := by kernel_rfl
theorem pl3_5 (w3 : Int) (Q : Value → Prop) : ffn Tryz.prog SA0 [] 2000 [] Tryz.f29 [fz ⟨[.agg ⟨[.string ⟨#[105, 100]⟩, .int .i64 w3]⟩]⟩, .string ⟨#[110, 111, 110, 101]⟩] h0 (fun v _ => Q v) = Q (.tuple ⟨[.int .i64 1, .bool false]⟩) := by kernel_rfl
theorem pl01_0 (w0 w1 : Int) (Q : Value → Prop) : ffn Tryz.prog SA0 [] 2000 [] Tryz.f29 [fz ⟨[.agg ⟨[.string ⟨#[105, 97]⟩, .int .i64 w0]⟩, .agg ⟨[.string ⟨#[105, 98]⟩, .int .i64 w1]⟩]⟩, .string ⟨#[]⟩] h0 (fun v _ => Q v) = Q (.tuple ⟨[.int .i64 0, .bool false]⟩) := by kernel_rfl
theorem pl01_1 (w0 w1 : Int) (Q : Value → Prop) : ffn Tryz.prog SA0 [] 2000 [] Tryz.f29 [fz ⟨[.agg ⟨[.string ⟨#[105, 97]⟩, .int .i64 w0]⟩, .agg ⟨[.string ⟨#[105, 98]⟩, .int .i64 w1]⟩]⟩, .string ⟨#[105, 97]⟩] h0 (fun v _ => Q v) = Q (.tuple ⟨[.int .i64 0, .bool true]⟩) := by kernel_rfl
theorem pl01_2 (w0 w1 : Int) (Q : Value → Prop) : ffn Tryz.prog SA0 [] 2000 [] Tryz.f29 [fz ⟨[.agg ⟨[.string ⟨#[105, 97]⟩, .int .i64 w0]⟩, .agg ⟨[.string ⟨#[105, 98]⟩, .int .i64 w1]⟩]⟩, .string ⟨#[105, 98]⟩] h0 (fun v _ => Q v) = Q (.tuple ⟨[.int .i64 1, .bool true]⟩) := by kernel_rfl
theorem pl01_3 (w0 w1 : Int) (Q : Value → Prop) : ffn Tryz.prog SA0 [] 2000 [] Tryz.f29 [fz ⟨[.agg ⟨[.string ⟨#[105, 97]⟩, .int .i64 w0]⟩, .agg ⟨[.string ⟨#[105, 98]⟩, .int .i64 w1]⟩]⟩, .string ⟨#[105, 99]⟩] h0 (fun v _ => Q v) = Q (.tuple ⟨[.int .i64 2, .bool false]⟩) := by kernel_rfl
theorem pl01_4 (w0 w1 : Int) (Q : Value → Prop) : ffn Tryz.prog SA0 [] 2000 [] Tryz.f29 [fz ⟨[.agg ⟨[.string ⟨#[105, 97]⟩, .int .i64 w0]⟩, .agg ⟨[.string ⟨#[105, 98]⟩, .int .i64 w1]⟩]⟩, .string ⟨#[105, 100]⟩] h0 (fun v _ => Q v) = Q (.tuple ⟨[.int .i64 2, .bool false]⟩) := by kernel_rfl
theorem pl01_5 (w0 w1 : Int) (Q : Value → Prop) : ffn Tryz.prog SA0 [] 2000 [] Tryz.f29 [fz ⟨[.agg ⟨[.string ⟨#[105, 97]⟩, .int .i64 w0]⟩, .agg ⟨[.string ⟨#[105, 98]⟩, .int .i64 w1]⟩]⟩, .string ⟨#[110, 111, 110, 101]⟩] h0 (fun v _ => Q v) = Q (.tuple ⟨[.int .i64 2, .bool false]⟩) := by kernel_rfl
theorem pl02_0 (w0 w2 : Int) (Q : Value → Prop) : ffn Tryz.prog SA0 [] 2000 [] Tryz.f29 [fz ⟨[.agg ⟨[.string ⟨#[105, 97]⟩, .int .i64 w0]⟩, .agg ⟨[.string ⟨#[105, 99]⟩, .int .i64 w2]⟩]⟩, .string ⟨#[]⟩] h0 (fun v _ => Q v) = Q (.tuple ⟨[.int .i64 0, .bool false]⟩) := by kernel_rfl
theorem pl02_1 (w0 w2 : Int) (Q : Value → Prop) : ffn Tryz.prog SA0 [] 2000 [] Tryz.f29 [fz ⟨[.agg ⟨[.string ⟨#[105, 97]⟩, .int .i64 w0]⟩, .agg ⟨[.string ⟨#[105, 99]⟩, .int .i64 w2]⟩]⟩, .string ⟨#[105, 97]⟩] h0 (fun v _ => Q v) = Q (.tuple ⟨[.int .i64 0, .bool true]⟩) := by kernel_rfl
theorem pl02_2 (w0 w2 : Int) (Q : Value → Prop) : ffn Tryz.prog SA0 [] 2000 [] Tryz.f29 [fz ⟨[.agg ⟨[.string ⟨#[105, 97]⟩, .int .i64 w0]⟩, .agg ⟨[.string ⟨#[105, 99]⟩, .int .i64 w2]⟩]⟩, .string ⟨#[105, 98]⟩] h0 (fun v _ => Q v) = Q (.tuple ⟨[.int .i64 1, .bool false]⟩) := by kernel_rfl
theorem pl02_3 (w0 w2 : Int) (Q : Value → Prop) : ffn Tryz.prog SA0 [] 2000 [] Tryz.f29 [fz ⟨[.agg ⟨[.string ⟨#[105, 97]⟩, .int .i64 w0]⟩, .agg ⟨[.string ⟨#[105, 99]⟩, .int .i64 w2]⟩]⟩, .string ⟨#[105, 99]⟩] h0 (fun v _ => Q v) = Q (.tuple ⟨[.int .i64 1, .bool true]⟩) := by kernel_rfl
theorem pl02_4 (w0 w2 : Int) (Q : Value → Prop) : ffn Tryz.prog SA0 [] 2000 [] Tryz.f29 [fz ⟨[.agg ⟨[.string ⟨#[105, 97]⟩, .int .i64 w0]⟩, .agg ⟨[.string ⟨#[105, 99]⟩, .int .i64 w2]⟩]⟩, .string ⟨#[105, 100]⟩] h0 (fun v _ => Q v) = Q (.tuple ⟨[.int .i64 2, .bool false]⟩) := by kernel_rfl
theorem pl02_5 (w0 w2 : Int) (Q : Value → Prop) : ffn Tryz.prog SA0 [] 2000 [] Tryz.f29 [fz ⟨[.agg ⟨[.string ⟨#[105, 97]⟩, .int .i64 w0]⟩, .agg ⟨[.string ⟨#[105, 99]⟩, .int .i64 w2]⟩]⟩, .string ⟨#[110, 111, 110, 101]⟩] h0 (fun v _ => Q v) = Q (.tuple ⟨[.int .i64 2, .bool false]⟩) := by kernel_rfl
theorem pl03_0 (w0 w3 : Int) (Q : Value → Prop) : ffn Tryz.prog SA0 [] 2000 [] Tryz.f29 [fz ⟨[.agg ⟨[.string ⟨#[105, 97]⟩, .int .i64 w0]⟩, .agg ⟨[.string ⟨#[105, 100]⟩, .int .i64 w3]⟩]⟩, .string ⟨#[]⟩] h0 (fun v _ => Q v) = Q (.tuple ⟨[.int .i64 0, .bool false]⟩) := by kernel_rfl
theorem pl03_1 (w0 w3 : Int) (Q : Value → Prop) : ffn Tryz.prog SA0 [] 2000 [] Tryz.f29 [fz ⟨[.agg ⟨[.string ⟨#[105, 97]⟩, .int .i64 w0]⟩, .agg ⟨[.string ⟨#[105, 100]⟩, .int .i64 w3]⟩]⟩, .string ⟨#[105, 97]⟩] h0 (fun v _ => Q v) = Q (.tuple ⟨[.int .i64 0, .bool true]⟩) := by kernel_rfl
theorem pl03_2 (w0 w3 : Int) (Q : Value → Prop) : ffn Tryz.prog SA0 [] 2000 [] Tryz.f29 [fz ⟨[.agg ⟨[.string ⟨#[105, 97]⟩, .int .i64 w0]⟩, .agg ⟨[.string ⟨#[105, 100]⟩, .int .i64 w3]⟩]⟩, .string ⟨#[105, 98]⟩] h0 (fun v _ => Q v) = Q (.tuple ⟨[.int .i64 1, .bool false]⟩) := by kernel_rfl
theorem pl03_3 (w0 w3 : Int) (Q : Value → Prop) : ffn Tryz.prog SA0 [] 2000 [] Tryz.f29 [fz ⟨[.agg ⟨[.string ⟨#[105, 97]⟩, .int .i64 w0]⟩, .agg ⟨[.string ⟨#[105, 100]⟩, .int .i64 w3]⟩]⟩, .string ⟨#[105, 99]⟩] h0 (fun v _ => Q v) = Q (.tuple ⟨[.int .i64 1, .bool false]⟩) := by kernel_rfl
theorem pl03_4 (w0 w3 : Int) (Q : Value → Prop) : ffn Tryz.prog SA0 [] 2000 [] Tryz.f29 [fz ⟨[.agg ⟨[.string ⟨#[105, 97]⟩, .int .i64 w0]⟩, .agg ⟨[.string ⟨#[105, 100]⟩, .int .i64 w3]⟩]⟩, .string ⟨#[105, 100]⟩] h0 (fun v _ => Q v) = Q (.tuple ⟨[.int .i64 1, .bool true]⟩) := by kernel_rfl
theorem pl03_5 (w0 w3 : Int) (Q : Value → Prop) : ffn Tryz.prog SA0 [] 2000 [] Tryz.f29 [fz ⟨[.agg ⟨[.string ⟨#[105, 97]⟩, .int .i64 w0]⟩, .agg ⟨[.string ⟨#[105, 100]⟩, .int .i64 w3]⟩]⟩, .string ⟨#[110, 111, 110, 101]⟩] h0 (fun v _ => Q v) = Q (.tuple ⟨[.int .i64 2, .bool false]⟩) := by kernel_rfl
theorem pl12_0 (w1 w2 : Int) (Q : Value → Prop) : ffn Tryz.prog SA0 [] 2000 [] Tryz.f29 [fz ⟨[.agg ⟨[.string ⟨#[105, 98]⟩, .int .i64 w1]⟩, .agg ⟨[.string ⟨#[105, 99]⟩, .int .i64 w2]⟩]⟩, .string ⟨#[]⟩] h0 (fun v _ => Q v) = Q (.tuple ⟨[.int .i64 0, .bool false]⟩) := by kernel_rfl
theorem pl12_1 (w1 w2 : Int) (Q : Value → Prop) : ffn Tryz.prog SA0 [] 2000 [] Tryz.f29 [fz ⟨[.agg ⟨[.string ⟨#[105, 98]⟩, .int .i64 w1]⟩, .agg ⟨[.string ⟨#[105, 99]⟩, .int .i64 w2]⟩]⟩, .string ⟨#[105, 97]⟩] h0 (fun v _ => Q v) = Q (.tuple ⟨[.int .i64 0, .bool false]⟩) := by kernel_rfl
theorem pl12_2 (w1 w2 : Int) (Q : Value → Prop) : ffn Tryz.prog SA0 [] 2000 [] Tryz.f29 [fz ⟨[.agg ⟨[.string ⟨#[105, 98]⟩, .int .i64 w1]⟩, .agg ⟨[.string ⟨#[105, 99]⟩, .int .i64 w2]⟩]⟩, .string ⟨#[105, 98]⟩] h0 (fun v _ => Q v) = Q (.tuple ⟨[.int .i64 0, .bool true]⟩) := by kernel_rfl
theorem pl12_3 (w1 w2 : Int) (Q : Value → Prop) : ffn Tryz.prog SA0 [] 2000 [] Tryz.f29 [fz ⟨[.agg ⟨[.string ⟨#[105, 98]⟩, .int .i64 w1]⟩, .agg ⟨[.string ⟨#[105, 99]⟩, .int .i64 w2]⟩]⟩, .string ⟨#[105, 99]⟩] h0 (fun v _ => Q v) = Q (.tuple ⟨[.int .i64 1, .bool true]⟩) := by kernel_rfl
theorem pl12_4 (w1 w2 : Int) (Q : Value → Prop) : ffn Tryz.prog SA0 [] 2000 [] Tryz.f29 [fz ⟨[.agg ⟨[.string ⟨#[105, 98]⟩, .int .i64 w1]⟩, .agg ⟨[.string ⟨#[105, 99]⟩, .int .i64 w2]⟩]⟩, .string ⟨#[105, 100]⟩] h0 (fun v _ => Q v) = Q (.tuple ⟨[.int .i64 2, .bool false]⟩) := by kernel_rfl
theorem pl12_5 (w1 w2 : Int) (Q : Value → Prop) : ffn Tryz.prog SA0 [] 2000 [] Tryz.f29 [fz ⟨[.agg ⟨[.string ⟨#[105, 98]⟩, .int .i64 w1]⟩, .agg ⟨[.string ⟨#[105, 99]⟩, .int .i64 w2]⟩]⟩, .string ⟨#[110, 111, 110, 101]⟩] h0 (fun v _ => Q v) = Q (.tuple ⟨[.int .i64 2, .bool false]⟩) := by kernel_rfl
theorem pl13_0 (w1 w3 : Int) (Q : Value → Prop) : ffn Tryz.prog SA0 [] 2000 [] Tryz.f29 [fz ⟨[.agg ⟨[.string ⟨#[105, 98]⟩, .int .i64 w1]⟩, .agg ⟨[.string ⟨#[105, 100]⟩, .int .i64 w3]⟩]⟩, .string ⟨#[]⟩] h0 (fun v _ => Q v) = Q (.tuple ⟨[.int .i64 0, .bool false]⟩) := by kernel_rfl
theorem pl13_1 (w1 w3 : Int) (Q : Value → Prop) : ffn Tryz.prog SA0 [] 2000 [] Tryz.f29 [fz ⟨[.agg ⟨[.string ⟨#[105, 98]⟩, .int .i64 w1]⟩, .agg ⟨[.string ⟨#[105, 100]⟩, .int .i64 w3]⟩]⟩, .string ⟨#[105, 97]⟩] h0 (fun v _ => Q v) = Q (.tuple ⟨[.int .i64 0, .bool false]⟩) := by kernel_rfl
theorem pl13_2 (w1 w3 : Int) (Q : Value → Prop) : ffn Tryz.prog SA0 [] 2000 [] Tryz.f29 [fz ⟨[.agg ⟨[.string ⟨#[105, 98]⟩, .int .i64 w1]⟩, .agg ⟨[.string ⟨#[105, 100]⟩, .int .i64 w3]⟩]⟩, .string ⟨#[105, 98]⟩] h0 (fun v _ => Q v) = Q (.tuple ⟨[.int .i64 0, .bool true]⟩) := by kernel_rfl
theorem pl13_3 (w1 w3 : Int) (Q : Value → Prop) : ffn Tryz.prog SA0 [] 2000 [] Tryz.f29 [fz ⟨[.agg ⟨[.string ⟨#[105, 98]⟩, .int .i64 w1]⟩, .agg ⟨[.string ⟨#[105, 100]⟩, .int .i64 w3]⟩]⟩, .string ⟨#[105, 99]⟩] h0 (fun v _ => Q v) = Q (.tuple ⟨[.int .i64 1, .bool false]⟩) := by kernel_rfl
theorem pl13_4 (w1 w3 : Int) (Q : Value → Prop) : ffn Tryz.prog SA0 [] 2000 [] Tryz.f29 [fz ⟨[.agg ⟨[.string ⟨#[105, 98]⟩, .int .i64 w1]⟩, .agg ⟨[.string ⟨#[105, 100]⟩, .int .i64 w3]⟩]⟩, .string ⟨#[105, 100]⟩] h0 (fun v _ => Q v) = Q (.tuple ⟨[.int .i64 1, .bool true]⟩) := by kernel_rfl
theorem pl13_5 (w1 w3 : Int) (Q : Value → Prop) : ffn Tryz.prog SA0 [] 2000 [] Tryz.f29 [fz ⟨[.agg ⟨[.string ⟨#[105, 98]⟩, .int .i64 w1]⟩, .agg ⟨[.string ⟨#[105, 100]⟩, .int .i64 w3]⟩]⟩, .string ⟨#[110, 111, 110, 101]⟩] h0 (fun v _ => Q v) = Q (.tuple ⟨[.int .i64 2, .bool false]⟩) := by kernel_rfl
theorem pl23_0 (w2 w3 : Int) (Q : Value → Prop) : ffn Tryz.prog SA0 [] 2000 [] Tryz.f29 [fz ⟨[.agg ⟨[.string ⟨#[105, 99]⟩, .int .i64 w2]⟩, .agg ⟨[.string ⟨#[105, 100]⟩, .int .i64 w3]⟩]⟩, .string ⟨#[]⟩] h0 (fun v _ => Q v) = Q (.tuple ⟨[.int .i64 0, .bool false]⟩) := by kernel_rfl
theorem pl23_1 (w2 w3 : Int) (Q : Value → Prop) : ffn Tryz.prog SA0 [] 2000 [] Tryz.f29 [fz ⟨[.agg ⟨[.string ⟨#[105, 99]⟩, .int .i64 w2]⟩, .agg ⟨[.string ⟨#[105, 100]⟩, .int .i64 w3]⟩]⟩, .string ⟨#[105, 97]⟩] h0 (fun v _ => Q v) = Q (.tuple ⟨[.int .i64 0, .bool false]⟩) := by kernel_rfl
theorem pl23_2 (w2 w3 : Int) (Q : Value → Prop) : ffn Tryz.prog SA0 [] 2000 [] Tryz.f29 [fz ⟨[.agg ⟨[.string ⟨#[105, 99]⟩, .int .i64 w2]⟩, .agg ⟨[.string ⟨#[105, 100]⟩, .int .i64 w3]⟩]⟩, .string ⟨#[105, 98]⟩] h0 (fun v _ => Q v) = Q (.tuple ⟨[.int .i64 0, .bool false]⟩) := by kernel_rfl
theorem pl23_3 (w2 w3 : Int) (Q : Value → Prop) : ffn Tryz.prog SA0 [] 2000 [] Tryz.f29 [fz ⟨[.agg ⟨[.string ⟨#[105, 99]⟩, .int .i64 w2]⟩, .agg ⟨[.string ⟨#[105, 100]⟩, .int .i64 w3]⟩]⟩, .string ⟨#[105, 99]⟩] h0 (fun v _ => Q v) = Q (.tuple ⟨[.int .i64 0, .bool true]⟩) := by kernel_rfl
theorem pl23_4 (w2 w3 : Int) (Q : Value → Prop) : ffn Tryz.prog SA0 [] 2000 [] Tryz.f29 [fz ⟨[.agg ⟨[.string ⟨#[105, 99]⟩, .int .i64 w2]⟩, .agg ⟨[.string ⟨#[105, 100]⟩, .int .i64 w3]⟩]⟩, .string ⟨#[105, 100]⟩] h0 (fun v _ => Q v) = Q (.tuple ⟨[.int .i64 1, .bool true]⟩) := by kernel_rfl
theorem pl23_5 (w2 w3 : Int) (Q : Value → Prop) : ffn Tryz.prog SA0 [] 2000 [] Tryz.f29 [fz ⟨[.agg ⟨[.string ⟨#[105, 99]⟩, .int .i64 w2]⟩, .agg ⟨[.string ⟨#[105, 100]⟩, .int .i64 w3]⟩]⟩, .string ⟨#[110, 111, 110, 101]⟩] h0 (fun v _ => Q v) = Q (.tuple ⟨[.int .i64 2, .bool false]⟩) := by kernel_rfl
theorem pl012_0 (w0 w1 w2 : Int) (Q : Value → Prop) : ffn Tryz.prog SA0 [] 2000 [] Tryz.f29 [fz ⟨[.agg ⟨[.string ⟨#[105, 97]⟩, .int .i64 w0]⟩, .agg ⟨[.string ⟨#[105, 98]⟩, .int .i64 w1]⟩, .agg ⟨[.string ⟨#[105, 99]⟩, .int .i64 w2]⟩]⟩, .string ⟨#[]⟩] h0 (fun v _ => Q v) = Q (.tuple ⟨[.int .i64 0, .bool false]⟩) := by kernel_rfl
theorem pl012_1 (w0 w1 w2 : Int) (Q : Value → Prop) : ffn Tryz.prog SA0 [] 2000 [] Tryz.f29 [fz ⟨[.agg ⟨[.string ⟨#[105, 97]⟩, .int .i64 w0]⟩, .agg ⟨[.string ⟨#[105, 98]⟩, .int .i64 w1]⟩, .agg ⟨[.string ⟨#[105, 99]⟩, .int .i64 w2]⟩]⟩, .string ⟨#[105, 97]⟩] h0 (fun v _ => Q v) = Q (.tuple ⟨[.int .i64 0, .bool true]⟩) := by kernel_rfl
theorem pl012_2 (w0 w1 w2 : Int) (Q : Value → Prop) : ffn Tryz.prog SA0 [] 2000 [] Tryz.f29 [fz ⟨[.agg ⟨[.string ⟨#[105, 97]⟩, .int .i64 w0]⟩, .agg ⟨[.string ⟨#[105, 98]⟩, .int .i64 w1]⟩, .agg ⟨[.string ⟨#[105, 99]⟩, .int .i64 w2]⟩]⟩, .string ⟨#[105, 98]⟩] h0 (fun v _ => Q v) = Q (.tuple ⟨[.int .i64 1, .bool true]⟩) := by kernel_rfl
theorem pl012_3 (w0 w1 w2 : Int) (Q : Value → Prop) : ffn Tryz.prog SA0 [] 2000 [] Tryz.f29 [fz ⟨[.agg ⟨[.string ⟨#[105, 97]⟩, .int .i64 w0]⟩, .agg ⟨[.string ⟨#[105, 98]⟩, .int .i64 w1]⟩, .agg ⟨[.string ⟨#[105, 99]⟩, .int .i64 w2]⟩]⟩, .string ⟨#[105, 99]⟩] h0 (fun v _ => Q v) = Q (.tuple ⟨[.int .i64 2, .bool true]⟩) := by kernel_rfl
theorem pl012_4 (w0 w1 w2 : Int) (Q : Value → Prop) : ffn Tryz.prog SA0 [] 2000 [] Tryz.f29 [fz ⟨[.agg ⟨[.string ⟨#[105, 97]⟩, .int .i64 w0]⟩, .agg ⟨[.string ⟨#[105, 98]⟩, .int .i64 w1]⟩, .agg ⟨[.string ⟨#[105, 99]⟩, .int .i64 w2]⟩]⟩, .string ⟨#[105, 100]⟩] h0 (fun v _ => Q v) = Q (.tuple ⟨[.int .i64 3, .bool false]⟩) := by kernel_rfl
theorem pl012_5 (w0 w1 w2 : Int) (Q : Value → Prop) : ffn Tryz.prog SA0 [] 2000 [] Tryz.f29 [fz ⟨[.agg ⟨[.string ⟨#[105, 97]⟩, .int .i64 w0]⟩, .agg ⟨[.string ⟨#[105, 98]⟩, .int .i64 w1]⟩, .agg ⟨[.string ⟨#[105, 99]⟩, .int .i64 w2]⟩]⟩, .string ⟨#[110, 111, 110, 101]⟩] h0 (fun v _ => Q v) = Q (.tuple ⟨[.int .i64 3, .bool false]⟩) := by kernel_rfl
theorem pl013_0 (w0 w1 w3 : Int) (Q : Value → Prop) : ffn Tryz.prog SA0 [] 2000 [] Tryz.f29 [fz ⟨[.agg ⟨[.string ⟨#[105, 97]⟩, .int .i64 w0]⟩, .agg ⟨[.string ⟨#[105, 98]⟩, .int .i64 w1]⟩, .agg ⟨[.string ⟨#[105, 100]⟩, .int .i64 w3]⟩]⟩, .string ⟨#[]⟩] h0 (fun v _ => Q v) = Q (.tuple ⟨[.int .i64 0, .bool false]⟩) := by kernel_rfl
theorem pl013_1 (w0 w1 w3 : Int) (Q : Value → Prop) : ffn Tryz.prog SA0 [] 2000 [] Tryz.f29 [fz ⟨[.agg ⟨[.string ⟨#[105, 97]⟩, .int .i64 w0]⟩, .agg ⟨[.string ⟨#[105, 98]⟩, .int .i64 w1]⟩, .agg ⟨[.string ⟨#[105, 100]⟩, .int .i64 w3]⟩]⟩, .string ⟨#[105, 97]⟩] h0 (fun v _ => Q v) = Q (.tuple ⟨[.int .i64 0, .bool true]⟩) := by kernel_rfl
theorem pl013_2 (w0 w1 w3 : Int) (Q : Value → Prop) : ffn Tryz.prog SA0 [] 2000 [] Tryz.f29 [fz ⟨[.agg ⟨[.string ⟨#[105, 97]⟩, .int .i64 w0]⟩, .agg ⟨[.string ⟨#[105, 98]⟩, .int .i64 w1]⟩, .agg ⟨[.string ⟨#[105, 100]⟩, .int .i64 w3]⟩]⟩, .string ⟨#[105, 98]⟩] h0 (fun v _ => Q v) = Q (.tuple ⟨[.int .i64 1, .bool true]⟩) := by kernel_rfl
theorem pl013_3 (w0 w1 w3 : Int) (Q : Value → Prop) : ffn Tryz.prog SA0 [] 2000 [] Tryz.f29 [fz ⟨[.agg ⟨[.string ⟨#[105, 97]⟩, .int .i64 w0]⟩, .agg ⟨[.string ⟨#[105, 98]⟩, .int .i64 w1]⟩, .agg ⟨[.string ⟨#[105, 100]⟩, .int .i64 w3]⟩]⟩, .string ⟨#[105, 99]⟩] h0 (fun v _ => Q v) = Q (.tuple ⟨[.int .i64 2, .bool false]⟩) := by kernel_rfl
theorem pl013_4 (w0 w1 w3 : Int) (Q : Value → Prop) : ffn Tryz.prog SA0 [] 2000 [] Tryz.f29 [fz ⟨[.agg ⟨[.string ⟨#[105, 97]⟩, .int .i64 w0]⟩, .agg ⟨[.string ⟨#[105, 98]⟩, .int .i64 w1]⟩, .agg ⟨[.string ⟨#[105, 100]⟩, .int .i64 w3]⟩]⟩, .string ⟨#[105, 100]⟩] h0 (fun v _ => Q v) = Q (.tuple ⟨[.int .i64 2, .bool true]⟩) := by kernel_rfl
theorem pl013_5 (w0 w1 w3 : Int) (Q : Value → Prop) : ffn Tryz.prog SA0 [] 2000 [] Tryz.f29 [fz ⟨[.agg ⟨[.string ⟨#[105, 97]⟩, .int .i64 w0]⟩, .agg ⟨[.string ⟨#[105, 98]⟩, .int .i64 w1]⟩, .agg ⟨[.string ⟨#[105, 100]⟩, .int .i64 w3]⟩]⟩, .string ⟨#[110, 111, 110, 101]⟩] h0 (fun v _ => Q v) = Q (.tuple ⟨[.int .i64 3, .bool false]⟩) := by kernel_rfl
theorem pl023_0 (w0 w2 w3 : Int) (Q : Value → Prop) : ffn Tryz.prog SA0 [] 2000 [] Tryz.f29 [fz ⟨[.agg ⟨[.string ⟨#[105, 97]⟩, .int .i64 w0]⟩, .agg ⟨[.string ⟨#[105, 99]⟩, .int .i64 w2]⟩, .agg ⟨[.string ⟨#[105, 100]⟩, .int .i64 w3]⟩]⟩, .string ⟨#[]⟩] h0 (fun v _ => Q v) = Q (.tuple ⟨[.int .i64 0, .bool false]⟩) := by kernel_rfl
theorem pl023_1 (w0 w2 w3 : Int) (Q : Value → Prop) : ffn Tryz.prog SA0 [] 2000 [] Tryz.f29 [fz ⟨[.agg ⟨[.string ⟨#[105, 97]⟩, .int .i64 w0]⟩, .agg ⟨[.string ⟨#[105, 99]⟩, .int .i64 w2]⟩, .agg ⟨[.string ⟨#[105, 100]⟩, .int .i64 w3]⟩]⟩, .string ⟨#[105, 97]⟩] h0 (fun v _ => Q v) = Q (.tuple ⟨[.int .i64 0, .bool true]⟩) := by kernel_rfl
theorem pl023_2 (w0 w2 w3 : Int) (Q : Value → Prop) : ffn Tryz.prog SA0 [] 2000 [] Tryz.f29 [fz ⟨[.agg ⟨[.string ⟨#[105, 97]⟩, .int .i64 w0]⟩, .agg ⟨[.string ⟨#[105, 99]⟩, .int .i64 w2]⟩, .agg ⟨[.string ⟨#[105, 100]⟩, .int .i64 w3]⟩]⟩, .string ⟨#[105, 98]⟩] h0 (fun v _ => Q v) = Q (.tuple ⟨[.int .i64 1, .bool false]⟩) := by kernel_rfl
theorem pl023_3 (w0 w2 w3 : Int) (Q : Value → Prop) : ffn Tryz.prog SA0 [] 2000 [] Tryz.f29 [fz ⟨[.agg ⟨[.string ⟨#[105, 97]⟩, .int .i64 w0]⟩, .agg ⟨[.string ⟨#[105, 99]⟩, .int .i64 w2]⟩, .agg ⟨[.string ⟨#[105, 100]⟩, .int .i64 w3]⟩]⟩, .string ⟨#[105, 99]⟩] h0 (fun v _ => Q v) = Q (.tuple ⟨[.int .i64 1, .bool true]⟩) := by kernel_rfl
theorem pl023_4 (w0 w2 w3 : Int) (Q : Value → Prop) : ffn Tryz.prog SA0 [] 2000 [] Tryz.f29 [fz ⟨[.agg ⟨[.string ⟨#[105, 97]⟩, .int .i64 w0]⟩, .agg ⟨[.string ⟨#[105, 99]⟩, .int .i64 w2]⟩, .agg ⟨[.string ⟨#[105, 100]⟩, .int .i64 w3]⟩]⟩, .string ⟨#[105, 100]⟩] h0 (fun v _ => Q v) = Q (.tuple ⟨[.int .i64 2, .bool true]⟩) := by kernel_rfl
theorem pl023_5 (w0 w2 w3 : Int) (Q : Value → Prop) : ffn Tryz.prog SA0 [] 2000 [] Tryz.f29 [fz ⟨[.agg ⟨[.string ⟨#[105, 97]⟩, .int .i64 w0]⟩, .agg ⟨[.string ⟨#[105, 99]⟩, .int .i64 w2]⟩, .agg ⟨[.string ⟨#[105, 100]⟩, .int .i64 w3]⟩]⟩, .string ⟨#[110, 111, 110, 101]⟩] h0 (fun v _ => Q v) = Q (.tuple ⟨[.int .i64 3, .bool false]⟩) := by kernel_rfl
theorem pl123_0 (w1 w2 w3 : Int) (Q : Value → Prop) : ffn Tryz.prog SA0 [] 2000 [] Tryz.f29 [fz ⟨[.agg ⟨[.string ⟨#[105, 98]⟩, .int .i64 w1]⟩, .agg ⟨[.string ⟨#[105, 99]⟩, .int .i64 w2]⟩, .agg ⟨[.string ⟨#[105, 100]⟩, .int .i64 w3]⟩]⟩, .string ⟨#[]⟩] h0 (fun v _ => Q v) = Q (.tuple ⟨[.int .i64 0, .bool false]⟩) := by kernel_rfl
theorem pl123_1 (w1 w2 w3 : Int) (Q : Value → Prop) : ffn Tryz.prog SA0 [] 2000 [] Tryz.f29 [fz ⟨[.agg ⟨[.string ⟨#[105, 98]⟩, .int .i64 w1]⟩, .agg ⟨[.string ⟨#[105, 99]⟩, .int .i64 w2]⟩, .agg ⟨[.string ⟨#[105, 100]⟩, .int .i64 w3]⟩]⟩, .string ⟨#[105, 97]⟩] h0 (fun v _ => Q v) = Q (.tuple ⟨[.int .i64 0, .bool false]⟩) := by kernel_rfl
theorem pl123_2 (w1 w2 w3 : Int) (Q : Value → Prop) : ffn Tryz.prog SA0 [] 2000 [] Tryz.f29 [fz ⟨[.agg ⟨[.string ⟨#[105, 98]⟩, .int .i64 w1]⟩, .agg ⟨[.string ⟨#[105, 99]⟩, .int .i64 w2]⟩, .agg ⟨[.string ⟨#[105, 100]⟩, .int .i64 w3]⟩]⟩, .string ⟨#[105, 98]⟩] h0 (fun v _ => Q v) = Q (.tuple ⟨[.int .i64 0, .bool true]⟩) := by kernel_rfl
theorem pl123_3 (w1 w2 w3 : Int) (Q : Value → Prop) : ffn Tryz.prog SA0 [] 2000 [] Tryz.f29 [fz ⟨[.agg ⟨[.string ⟨#[105, 98]⟩, .int .i64 w1]⟩, .agg ⟨[.string ⟨#[105, 99]⟩, .int .i64 w2]⟩, .agg ⟨[.string ⟨#[105, 100]⟩, .int .i64 w3]⟩]⟩, .string ⟨#[105, 99]⟩] h0 (fun v _ => Q v) = Q (.tuple ⟨[.int .i64 1, .bool true]⟩) := by kernel_rfl
theorem pl123_4 (w1 w2 w3 : Int) (Q : Value → Prop) : ffn Tryz.prog SA0 [] 2000 [] Tryz.f29 [fz ⟨[.agg ⟨[.string ⟨#[105, 98]⟩, .int .i64 w1]⟩, .agg ⟨[.string ⟨#[105, 99]⟩, .int .i64 w2]⟩, .agg ⟨[.string ⟨#[105, 100]⟩, .int .i64 w3]⟩]⟩, .string ⟨#[105, 100]⟩] h0 (fun v _ => Q v) = Q (.tuple ⟨[.int .i64 2, .bool true]⟩) := by kernel_rfl
theorem pl123_5 (w1 w2 w3 : Int) (Q : Value → Prop) : ffn Tryz.prog SA0 [] 2000 [] Tryz.f29 [fz ⟨[.agg ⟨[.string ⟨#[105, 98]⟩, .int .i64 w1]⟩, .agg ⟨[.string ⟨#[105, 99]⟩, .int .i64 w2]⟩, .agg ⟨[.string ⟨#[105, 100]⟩, .int .i64 w3]⟩]⟩, .string ⟨#[110, 111, 110, 101]⟩] h0 (fun v _ => Q v) = Q (.tuple ⟨[.int .i64 3, .bool false]⟩) := by kernel_rfl
theorem pl0123_0 (w0 w1 w2 w3 : Int) (Q : Value → Prop) : ffn Tryz.prog SA0 [] 2000 [] Tryz.f29 [fz ⟨[.agg ⟨[.string ⟨#[105, 97]⟩, .int .i64 w0]⟩, .agg ⟨[.string ⟨#[105, 98]⟩, .int .i64 w1]⟩, .agg ⟨[.string ⟨#[105, 99]⟩, .int .i64 w2]⟩, .agg ⟨[.string ⟨#[105, 100]⟩, .int .i64 w3]⟩]⟩, .string ⟨#[]⟩] h0 (fun v _ => Q v) = Q (.tuple ⟨[.int .i64 0, .bool false]⟩) := by kernel_rfl
theorem pl0123_1 (w0 w1 w2 w3 : Int) (Q : Value → Prop) : ffn Tryz.prog SA0 [] 2000 [] Tryz.f29 [fz ⟨[.agg ⟨[.string ⟨#[105, 97]⟩, .int .i64 w0]⟩, .agg ⟨[.string ⟨#[105, 98]⟩, .int .i64 w1]⟩, .agg ⟨[.string ⟨#[105, 99]⟩, .int .i64 w2]⟩, .agg ⟨[.string ⟨#[105, 100]⟩, .int .i64 w3]⟩]⟩, .string ⟨#[105, 97]⟩] h0 (fun v _ => Q v) = Q (.tuple ⟨[.int .i64 0, .bool true]⟩) := by kernel_rfl
theorem pl0123_2 (w0 w1 w2 w3 : Int) (Q : Value → Prop) : ffn Tryz.prog SA0 [] 2000 [] Tryz.f29 [fz ⟨[.agg ⟨[.string ⟨#[105, 97]⟩, .int .i64 w0]⟩, .agg ⟨[.string ⟨#[105, 98]⟩, .int .i64 w1]⟩, .agg ⟨[.string ⟨#[105, 99]⟩, .int .i64 w2]⟩, .agg ⟨[.string ⟨#[105, 100]⟩, .int .i64 w3]⟩]⟩, .string ⟨#[105, 98]⟩] h0 (fun v _ => Q v) = Q (.tuple ⟨[.int .i64 1, .bool true]⟩) := by kernel_rfl
theorem pl0123_3 (w0 w1 w2 w3 : Int) (Q : Value → Prop) : ffn Tryz.prog SA0 [] 2000 [] Tryz.f29 [fz ⟨[.agg ⟨[.string ⟨#[105, 97]⟩, .int .i64 w0]⟩, .agg ⟨[.string ⟨#[105, 98]⟩, .int .i64 w1]⟩, .agg ⟨[.string ⟨#[105, 99]⟩, .int .i64 w2]⟩, .agg ⟨[.string ⟨#[105, 100]⟩, .int .i64 w3]⟩]⟩, .string ⟨#[105, 99]⟩] h0 (fun v _ => Q v) = Q (.tuple ⟨[.int .i64 2, .bool true]⟩) := by kernel_rfl
theorem pl0123_4 (w0 w1 w2 w3 : Int) (Q : Value → Prop) : ffn Tryz.prog SA0 [] 2000 [] Tryz.f29 [fz ⟨[.agg ⟨[.string ⟨#[105, 97]⟩, .int .i64 w0]⟩, .agg ⟨[.string ⟨#[105, 98]⟩, .int .i64 w1]⟩, .agg ⟨[.string ⟨#[105, 99]⟩, .int .i64 w2]⟩, .agg ⟨[.string ⟨#[105, 100]⟩, .int .i64 w3]⟩]⟩, .string ⟨#[105, 100]⟩] h0 (fun v _ => Q v) = Q (.tuple ⟨[.int .i64 3, .bool true]⟩) := by kernel_rfl
theorem pl0123_5 (w0 w1 w2 w3 : Int) (Q : Value → Prop) : ffn Tryz.prog SA0 [] 2000 [] Tryz.f29 [fz ⟨[.agg ⟨[.string ⟨#[105, 97]⟩, .int .i64 w0]⟩, .agg ⟨[.string ⟨#[105, 98]⟩, .int .i64 w1]⟩, .agg ⟨[.string ⟨#[105, 99]⟩, .int .i64 w2]⟩, .agg ⟨[.string ⟨#[105, 100]⟩, .int .i64 w3]⟩]⟩, .string ⟨#[110, 111, 110, 101]⟩] h0 (fun v _ => Q v) = Q (.tuple ⟨[.int .i64 4, .bool false]⟩) := by kernel_rfl
theorem ci0 (w0 : Int) (Q : Value → Prop) : ffn Tryz.prog SA0 [] 2000 [] Tryz.f27 [fz ⟨[.agg ⟨[.string ⟨#[105, 97]⟩, .int .i64 w0]⟩]⟩] h0 (fun v _ => Q v) = cond (decide (w0 < 1)) (Q (.int .i64 1)) (cond (decide (w0 > 100)) (Q (.int .i64 1)) (Q (.int .i64 0))) := by kernel_rfl
theorem ci1 (w1 : Int) (Q : Value → Prop) : ffn Tryz.prog SA0 [] 2000 [] Tryz.f27 [fz ⟨[.agg ⟨[.string ⟨#[105, 98]⟩, .int .i64 w1]⟩]⟩] h0 (fun v _ => Q v) = cond (decide (w1 < 1)) (Q (.int .i64 1)) (cond (decide (w1 > 100)) (Q (.int .i64 1)) (Q (.int .i64 0))) := by kernel_rfl
theorem ci2 (w2 : Int) (Q : Value → Prop) : ffn Tryz.prog SA0 [] 2000 [] Tryz.f27 [fz ⟨[.agg ⟨[.string ⟨#[105, 99]⟩, .int .i64 w2]⟩]⟩] h0 (fun v _ => Q v) = cond (decide (w2 < 1)) (Q (.int .i64 1)) (cond (decide (w2 > 100)) (Q (.int .i64 1)) (Q (.int .i64 0))) := by kernel_rfl
theorem ci3 (w3 : Int) (Q : Value → Prop) : ffn Tryz.prog SA0 [] 2000 [] Tryz.f27 [fz ⟨[.agg ⟨[.string ⟨#[105, 100]⟩, .int .i64 w3]⟩]⟩] h0 (fun v _ => Q v) = cond (decide (w3 < 1)) (Q (.int .i64 1)) (cond (decide (w3 > 100)) (Q (.int .i64 1)) (Q (.int .i64 0))) := by kernel_rfl
theorem ci01 (w0 w1 : Int) (Q : Value → Prop) : ffn Tryz.prog SA0 [] 2000 [] Tryz.f27 [fz ⟨[.agg ⟨[.string ⟨#[105, 97]⟩, .int .i64 w0]⟩, .agg ⟨[.string ⟨#[105, 98]⟩, .int .i64 w1]⟩]⟩] h0 (fun v _ => Q v) = cond (decide (w0 < 1)) (Q (.int .i64 1)) (cond (decide (w0 > 100)) (Q (.int .i64 1)) (cond (decide (w1 < 1)) (Q (.int .i64 1)) (cond (decide (w1 > 100)) (Q (.int .i64 1)) (Q (.int .i64 0))))) := by kernel_rfl
theorem ci02 (w0 w2 : Int) (Q : Value → Prop) : ffn Tryz.prog SA0 [] 2000 [] Tryz.f27 [fz ⟨[.agg ⟨[.string ⟨#[105, 97]⟩, .int .i64 w0]⟩, .agg ⟨[.string ⟨#[105, 99]⟩, .int .i64 w2]⟩]⟩] h0 (fun v _ => Q v) = cond (decide (w0 < 1)) (Q (.int .i64 1)) (cond (decide (w0 > 100)) (Q (.int .i64 1)) (cond (decide (w2 < 1)) (Q (.int .i64 1)) (cond (decide (w2 > 100)) (Q (.int .i64 1)) (Q (.int .i64 0))))) := by kernel_rfl
theorem ci03 (w0 w3 : Int) (Q : Value → Prop) : ffn Tryz.prog SA0 [] 2000 [] Tryz.f27 [fz ⟨[.agg ⟨[.string ⟨#[105, 97]⟩, .int .i64 w0]⟩, .agg ⟨[.string ⟨#[105, 100]⟩, .int .i64 w3]⟩]⟩] h0 (fun v _ => Q v) = cond (decide (w0 < 1)) (Q (.int .i64 1)) (cond (decide (w0 > 100)) (Q (.int .i64 1)) (cond (decide (w3 < 1)) (Q (.int .i64 1)) (cond (decide (w3 > 100)) (Q (.int .i64 1)) (Q (.int .i64 0))))) := by kernel_rfl
theorem ci12 (w1 w2 : Int) (Q : Value → Prop) : ffn Tryz.prog SA0 [] 2000 [] Tryz.f27 [fz ⟨[.agg ⟨[.string ⟨#[105, 98]⟩, .int .i64 w1]⟩, .agg ⟨[.string ⟨#[105, 99]⟩, .int .i64 w2]⟩]⟩] h0 (fun v _ => Q v) = cond (decide (w1 < 1)) (Q (.int .i64 1)) (cond (decide (w1 > 100)) (Q (.int .i64 1)) (cond (decide (w2 < 1)) (Q (.int .i64 1)) (cond (decide (w2 > 100)) (Q (.int .i64 1)) (Q (.int .i64 0))))) := by kernel_rfl
theorem ci13 (w1 w3 : Int) (Q : Value → Prop) : ffn Tryz.prog SA0 [] 2000 [] Tryz.f27 [fz ⟨[.agg ⟨[.string ⟨#[105, 98]⟩, .int .i64 w1]⟩, .agg ⟨[.string ⟨#[105, 100]⟩, .int .i64 w3]⟩]⟩] h0 (fun v _ => Q v) = cond (decide (w1 < 1)) (Q (.int .i64 1)) (cond (decide (w1 > 100)) (Q (.int .i64 1)) (cond (decide (w3 < 1)) (Q (.int .i64 1)) (cond (decide (w3 > 100)) (Q (.int .i64 1)) (Q (.int .i64 0))))) := by kernel_rfl
theorem ci23 (w2 w3 : Int) (Q : Value → Prop) : ffn Tryz.prog SA0 [] 2000 [] Tryz.f27 [fz ⟨[.agg ⟨[.string ⟨#[105, 99]⟩, .int .i64 w2]⟩, .agg ⟨[.string ⟨#[105, 100]⟩, .int .i64 w3]⟩]⟩] h0 (fun v _ => Q v) = cond (decide (w2 < 1)) (Q (.int .i64 1)) (cond (decide (w2 > 100)) (Q (.int .i64 1)) (cond (decide (w3 < 1)) (Q (.int .i64 1)) (cond (decide (w3 > 100)) (Q (.int .i64 1)) (Q (.int .i64 0))))) := by kernel_rfl
theorem ci012 (w0 w1 w2 : Int) (Q : Value → Prop) : ffn Tryz.prog SA0 [] 2000 [] Tryz.f27 [fz ⟨[.agg ⟨[.string ⟨#[105, 97]⟩, .int .i64 w0]⟩, .agg ⟨[.string ⟨#[105, 98]⟩, .int .i64 w1]⟩, .agg ⟨[.string ⟨#[105, 99]⟩, .int .i64 w2]⟩]⟩] h0 (fun v _ => Q v) = cond (decide (w0 < 1)) (Q (.int .i64 1)) (cond (decide (w0 > 100)) (Q (.int .i64 1)) (cond (decide (w1 < 1)) (Q (.int .i64 1)) (cond (decide (w1 > 100)) (Q (.int .i64 1)) (cond (decide (w2 < 1)) (Q (.int .i64 1)) (cond (decide (w2 > 100)) (Q (.int .i64 1)) (Q (.int .i64 0))))))) := by kernel_rfl
theorem ci013 (w0 w1 w3 : Int) (Q : Value → Prop) : ffn Tryz.prog SA0 [] 2000 [] Tryz.f27 [fz ⟨[.agg ⟨[.string ⟨#[105, 97]⟩, .int .i64 w0]⟩, .agg ⟨[.string ⟨#[105, 98]⟩, .int .i64 w1]⟩, .agg ⟨[.string ⟨#[105, 100]⟩, .int .i64 w3]⟩]⟩] h0 (fun v _ => Q v) = cond (decide (w0 < 1)) (Q (.int .i64 1)) (cond (decide (w0 > 100)) (Q (.int .i64 1)) (cond (decide (w1 < 1)) (Q (.int .i64 1)) (cond (decide (w1 > 100)) (Q (.int .i64 1)) (cond (decide (w3 < 1)) (Q (.int .i64 1)) (cond (decide (w3 > 100)) (Q (.int .i64 1)) (Q (.int .i64 0))))))) := by kernel_rfl
theorem ci023 (w0 w2 w3 : Int) (Q : Value → Prop) : ffn Tryz.prog SA0 [] 2000 [] Tryz.f27 [fz ⟨[.agg ⟨[.string ⟨#[105, 97]⟩, .int .i64 w0]⟩, .agg ⟨[.string ⟨#[105, 99]⟩, .int .i64 w2]⟩, .agg ⟨[.string ⟨#[105, 100]⟩, .int .i64 w3]⟩]⟩] h0 (fun v _ => Q v) = cond (decide (w0 < 1)) (Q (.int .i64 1)) (cond (decide (w0 > 100)) (Q (.int .i64 1)) (cond (decide (w2 < 1)) (Q (.int .i64 1)) (cond (decide (w2 > 100)) (Q (.int .i64 1)) (cond (decide (w3 < 1)) (Q (.int .i64 1)) (cond (decide (w3 > 100)) (Q (.int .i64 1)) (Q (.int .i64 0))))))) := by kernel_rfl
theorem ci123 (w1 w2 w3 : Int) (Q : Value → Prop) : ffn Tryz.prog SA0 [] 2000 [] Tryz.f27 [fz ⟨[.agg ⟨[.string ⟨#[105, 98]⟩, .int .i64 w1]⟩, .agg ⟨[.string ⟨#[105, 99]⟩, .int .i64 w2]⟩, .agg ⟨[.string ⟨#[105, 100]⟩, .int .i64 w3]⟩]⟩] h0 (fun v _ => Q v) = cond (decide (w1 < 1)) (Q (.int .i64 1)) (cond (decide (w1 > 100)) (Q (.int .i64 1)) (cond (decide (w2 < 1)) (Q (.int .i64 1)) (cond (decide (w2 > 100)) (Q (.int .i64 1)) (cond (decide (w3 < 1)) (Q (.int .i64 1)) (cond (decide (w3 > 100)) (Q (.int .i64 1)) (Q (.int .i64 0))))))) := by kernel_rfl
theorem ci0123 (w0 w1 w2 w3 : Int) (Q : Value → Prop) : ffn Tryz.prog SA0 [] 2000 [] Tryz.f27 [fz ⟨[.agg ⟨[.string ⟨#[105, 97]⟩, .int .i64 w0]⟩, .agg ⟨[.string ⟨#[105, 98]⟩, .int .i64 w1]⟩, .agg ⟨[.string ⟨#[105, 99]⟩, .int .i64 w2]⟩, .agg ⟨[.string ⟨#[105, 100]⟩, .int .i64 w3]⟩]⟩] h0 (fun v _ => Q v) = cond (decide (w0 < 1)) (Q (.int .i64 1)) (cond (decide (w0 > 100)) (Q (.int .i64 1)) (cond (decide (w1 < 1)) (Q (.int .i64 1)) (cond (decide (w1 > 100)) (Q (.int .i64 1)) (cond (decide (w2 < 1)) (Q (.int .i64 1)) (cond (decide (w2 > 100)) (Q (.int .i64 1)) (cond (decide (w3 < 1)) (Q (.int .i64 1)) (cond (decide (w3 > 100)) (Q (.int .i64 1)) (Q (.int .i64 0))))))))) := by kernel_rfl
theorem inPK_mem {k : ByteArray} (h : inPK k = true) : k ∈ keysP := by
  obtain ⟨a, h1, h2⟩ := List.any_eq_true.1 h
  rw [← natsOf_inj (beqN_eq h2)]; exact h1
theorem w_seg {w : Int} (h : 1 ≤ w ∧ w ≤ 5) {X Y : Prop} (hX : X) : cond (decide (w < 1)) Y (cond (decide (w > 100)) Y X) := pick_f (decide_eq_false (by omega)) (pick_f (decide_eq_false (by omega)) hX)
theorem pl0_fn (w0 : Int) {k : ByteArray} (hk : k ∈ keysP) : FnOK 0 Tryz.prog 29 ⟨[fz ⟨[.agg ⟨[.string ⟨#[105, 97]⟩, .int .i64 w0]⟩]⟩, .string k]⟩ h0 (fun v _ => v = .tuple ⟨[.int .i64 (plI [⟨#[105, 97]⟩] k), .bool (plF [⟨#[105, 97]⟩] k)]⟩) := by
  simp only [keysP, List.mem_cons, List.not_mem_nil, or_false] at hk
  rcases hk with rfl | rfl | rfl | rfl | rfl | rfl
  · exact FnOK.ftree SA0_ok mixed Tryz.func29 somePL (pl0_0 w0 (fun v => v = .tuple ⟨[.int .i64 0, .bool false]⟩)) rfl
  · exact FnOK.ftree SA0_ok mixed Tryz.func29 somePL (pl0_1 w0 (fun v => v = .tuple ⟨[.int .i64 0, .bool true]⟩)) rfl
  · exact FnOK.ftree SA0_ok mixed Tryz.func29 somePL (pl0_2 w0 (fun v => v = .tuple ⟨[.int .i64 1, .bool false]⟩)) rfl
  · exact FnOK.ftree SA0_ok mixed Tryz.func29 somePL (pl0_3 w0 (fun v => v = .tuple ⟨[.int .i64 1, .bool false]⟩)) rfl
  · exact FnOK.ftree SA0_ok mixed Tryz.func29 somePL (pl0_4 w0 (fun v => v = .tuple ⟨[.int .i64 1, .bool false]⟩)) rfl
  · exact FnOK.ftree SA0_ok mixed Tryz.func29 somePL (pl0_5 w0 (fun v => v = .tuple ⟨[.int .i64 1, .bool false]⟩)) rfl
theorem pl1_fn (w1 : Int) {k : ByteArray} (hk : k ∈ keysP) : FnOK 0 Tryz.prog 29 ⟨[fz ⟨[.agg ⟨[.string ⟨#[105, 98]⟩, .int .i64 w1]⟩]⟩, .string k]⟩ h0 (fun v _ => v = .tuple ⟨[.int .i64 (plI [⟨#[105, 98]⟩] k), .bool (plF [⟨#[105, 98]⟩] k)]⟩) := by
  simp only [keysP, List.mem_cons, List.not_mem_nil, or_false] at hk
  rcases hk with rfl | rfl | rfl | rfl | rfl | rfl
  · exact FnOK.ftree SA0_ok mixed Tryz.func29 somePL (pl1_0 w1 (fun v => v = .tuple ⟨[.int .i64 0, .bool false]⟩)) rfl
  · exact FnOK.ftree SA0_ok mixed Tryz.func29 somePL (pl1_1 w1 (fun v => v = .tuple ⟨[.int .i64 0, .bool false]⟩)) rfl
  · exact FnOK.ftree SA0_ok mixed Tryz.func29 somePL (pl1_2 w1 (fun v => v = .tuple ⟨[.int .i64 0, .bool true]⟩)) rfl
  · exact FnOK.ftree SA0_ok mixed Tryz.func29 somePL (pl1_3 w1 (fun v => v = .tuple ⟨[.int .i64 1, .bool false]⟩)) rfl
  · exact FnOK.ftree SA0_ok mixed Tryz.func29 somePL (pl1_4 w1 (fun v => v = .tuple ⟨[.int .i64 1, .bool false]⟩)) rfl
  · exact FnOK.ftree SA0_ok mixed Tryz.func29 somePL (pl1_5 w1 (fun v => v = .tuple ⟨[.int .i64 1, .bool false]⟩)) rfl
theorem pl2_fn (w2 : Int) {k : ByteArray} (hk : k ∈ keysP) : FnOK 0 Tryz.prog 29 ⟨[fz ⟨[.agg ⟨[.string ⟨#[105, 99]⟩, .int .i64 w2]⟩]⟩, .string k]⟩ h0 (fun v _ => v = .tuple ⟨[.int .i64 (plI [⟨#[105, 99]⟩] k), .bool (plF [⟨#[105, 99]⟩] k)]⟩) := by
  simp only [keysP, List.mem_cons, List.not_mem_nil, or_false] at hk
  rcases hk with rfl | rfl | rfl | rfl | rfl | rfl
  · exact FnOK.ftree SA0_ok mixed Tryz.func29 somePL (pl2_0 w2 (fun v => v = .tuple ⟨[.int .i64 0, .bool false]⟩)) rfl
  · exact FnOK.ftree SA0_ok mixed Tryz.func29 somePL (pl2_1 w2 (fun v => v = .tuple ⟨[.int .i64 0, .bool false]⟩)) rfl
  · exact FnOK.ftree SA0_ok mixed Tryz.func29 somePL (pl2_2 w2 (fun v => v = .tuple ⟨[.int .i64 0, .bool false]⟩)) rfl
  · exact FnOK.ftree SA0_ok mixed Tryz.func29 somePL (pl2_3 w2 (fun v => v = .tuple ⟨[.int .i64 0, .bool true]⟩)) rfl
  · exact FnOK.ftree SA0_ok mixed Tryz.func29 somePL (pl2_4 w2 (fun v => v = .tuple ⟨[.int .i64 1, .bool false]⟩)) rfl
  · exact FnOK.ftree SA0_ok mixed Tryz.func29 somePL (pl2_5 w2 (fun v => v = .tuple ⟨[.int .i64 1, .bool false]⟩)) rfl
theorem pl3_fn (w3 : Int) {k : ByteArray} (hk : k ∈ keysP) : FnOK 0 Tryz.prog 29 ⟨[fz ⟨[.agg ⟨[.string ⟨#[105, 100]⟩, .int .i64 w3]⟩]⟩, .string k]⟩ h0 (fun v _ => v = .tuple ⟨[.int .i64 (plI [⟨#[105, 100]⟩] k), .bool (plF [⟨#[105, 100]⟩] k)]⟩) := by
  simp only [keysP, List.mem_cons, List.not_mem_nil, or_false] at hk
  rcases hk with rfl | rfl | rfl | rfl | rfl | rfl
  · exact FnOK.ftree SA0_ok mixed Tryz.func29 somePL (pl3_0 w3 (fun v => v = .tuple ⟨[.int .i64 0, .bool false]⟩)) rfl
  · exact FnOK.ftree SA0_ok mixed Tryz.func29 somePL (pl3_1 w3 (fun v => v = .tuple ⟨[.int .i64 0, .bool false]⟩)) rfl
  · exact FnOK.ftree SA0_ok mixed Tryz.func29 somePL (pl3_2 w3 (fun v => v = .tuple ⟨[.int .i64 0, .bool false]⟩)) rfl
  · exact FnOK.ftree SA0_ok mixed Tryz.func29 somePL (pl3_3 w3 (fun v => v = .tuple ⟨[.int .i64 0, .bool false]⟩)) rfl
  · exact FnOK.ftree SA0_ok mixed Tryz.func29 somePL (pl3_4 w3 (fun v => v = .tuple ⟨[.int .i64 0, .bool true]⟩)) rfl
  · exact FnOK.ftree SA0_ok mixed Tryz.func29 somePL (pl3_5 w3 (fun v => v = .tuple ⟨[.int .i64 1, .bool false]⟩)) rfl
theorem pl01_fn (w0 w1 : Int) {k : ByteArray} (hk : k ∈ keysP) : FnOK 0 Tryz.prog 29 ⟨[fz ⟨[.agg ⟨[.string ⟨#[105, 97]⟩, .int .i64 w0]⟩, .agg ⟨[.string ⟨#[105, 98]⟩, .int .i64 w1]⟩]⟩, .string k]⟩ h0 (fun v _ => v = .tuple ⟨[.int .i64 (plI [⟨#[105, 97]⟩, ⟨#[105, 98]⟩] k), .bool (plF [⟨#[105, 97]⟩, ⟨#[105, 98]⟩] k)]⟩) := by
  simp only [keysP, List.mem_cons, List.not_mem_nil, or_false] at hk
  rcases hk with rfl | rfl | rfl | rfl | rfl | rfl
  · exact FnOK.ftree SA0_ok mixed Tryz.func29 somePL (pl01_0 w0 w1 (fun v => v = .tuple ⟨[.int .i64 0, .bool false]⟩)) rfl
  · exact FnOK.ftree SA0_ok mixed Tryz.func29 somePL (pl01_1 w0 w1 (fun v => v = .tuple ⟨[.int .i64 0, .bool true]⟩)) rfl
  · exact FnOK.ftree SA0_ok mixed Tryz.func29 somePL (pl01_2 w0 w1 (fun v => v = .tuple ⟨[.int .i64 1, .bool true]⟩)) rfl
  · exact FnOK.ftree SA0_ok mixed Tryz.func29 somePL (pl01_3 w0 w1 (fun v => v = .tuple ⟨[.int .i64 2, .bool false]⟩)) rfl
  · exact FnOK.ftree SA0_ok mixed Tryz.func29 somePL (pl01_4 w0 w1 (fun v => v = .tuple ⟨[.int .i64 2, .bool false]⟩)) rfl
  · exact FnOK.ftree SA0_ok mixed Tryz.func29 somePL (pl01_5 w0 w1 (fun v => v = .tuple ⟨[.int .i64 2, .bool false]⟩)) rfl
theorem pl02_fn (w0 w2 : Int) {k : ByteArray} (hk : k ∈ keysP) : FnOK 0 Tryz.prog 29 ⟨[fz ⟨[.agg ⟨[.string ⟨#[105, 97]⟩, .int .i64 w0]⟩, .agg ⟨[.string ⟨#[105, 99]⟩, .int .i64 w2]⟩]⟩, .string k]⟩ h0 (fun v _ => v = .tuple ⟨[.int .i64 (plI [⟨#[105, 97]⟩, ⟨#[105, 99]⟩] k), .bool (plF [⟨#[105, 97]⟩, ⟨#[105, 99]⟩] k)]⟩) := by
  simp only [keysP, List.mem_cons, List.not_mem_nil, or_false] at hk
  rcases hk with rfl | rfl | rfl | rfl | rfl | rfl
  · exact FnOK.ftree SA0_ok mixed Tryz.func29 somePL (pl02_0 w0 w2 (fun v => v = .tuple ⟨[.int .i64 0, .bool false]⟩)) rfl
  · exact FnOK.ftree SA0_ok mixed Tryz.func29 somePL (pl02_1 w0 w2 (fun v => v = .tuple ⟨[.int .i64 0, .bool true]⟩)) rfl
  · exact FnOK.ftree SA0_ok mixed Tryz.func29 somePL (pl02_2 w0 w2 (fun v => v = .tuple ⟨[.int .i64 1, .bool false]⟩)) rfl
  · exact FnOK.ftree SA0_ok mixed Tryz.func29 somePL (pl02_3 w0 w2 (fun v => v = .tuple ⟨[.int .i64 1, .bool true]⟩)) rfl
  · exact FnOK.ftree SA0_ok mixed Tryz.func29 somePL (pl02_4 w0 w2 (fun v => v = .tuple ⟨[.int .i64 2, .bool false]⟩)) rfl
  · exact FnOK.ftree SA0_ok mixed Tryz.func29 somePL (pl02_5 w0 w2 (fun v => v = .tuple ⟨[.int .i64 2, .bool false]⟩)) rfl
theorem pl03_fn (w0 w3 : Int) {k : ByteArray} (hk : k ∈ keysP) : FnOK 0 Tryz.prog 29 ⟨[fz ⟨[.agg ⟨[.string ⟨#[105, 97]⟩, .int .i64 w0]⟩, .agg ⟨[.string ⟨#[105, 100]⟩, .int .i64 w3]⟩]⟩, .string k]⟩ h0 (fun v _ => v = .tuple ⟨[.int .i64 (plI [⟨#[105, 97]⟩, ⟨#[105, 100]⟩] k), .bool (plF [⟨#[105, 97]⟩, ⟨#[105, 100]⟩] k)]⟩) := by
  simp only [keysP, List.mem_cons, List.not_mem_nil, or_false] at hk
  rcases hk with rfl | rfl | rfl | rfl | rfl | rfl
  · exact FnOK.ftree SA0_ok mixed Tryz.func29 somePL (pl03_0 w0 w3 (fun v => v = .tuple ⟨[.int .i64 0, .bool false]⟩)) rfl
  · exact FnOK.ftree SA0_ok mixed Tryz.func29 somePL (pl03_1 w0 w3 (fun v => v = .tuple ⟨[.int .i64 0, .bool true]⟩)) rfl
  · exact FnOK.ftree SA0_ok mixed Tryz.func29 somePL (pl03_2 w0 w3 (fun v => v = .tuple ⟨[.int .i64 1, .bool false]⟩)) rfl
  · exact FnOK.ftree SA0_ok mixed Tryz.func29 somePL (pl03_3 w0 w3 (fun v => v = .tuple ⟨[.int .i64 1, .bool false]⟩)) rfl
  · exact FnOK.ftree SA0_ok mixed Tryz.func29 somePL (pl03_4 w0 w3 (fun v => v = .tuple ⟨[.int .i64 1, .bool true]⟩)) rfl
  · exact FnOK.ftree SA0_ok mixed Tryz.func29 somePL (pl03_5 w0 w3 (fun v => v = .tuple ⟨[.int .i64 2, .bool false]⟩)) rfl
theorem pl12_fn (w1 w2 : Int) {k : ByteArray} (hk : k ∈ keysP) : FnOK 0 Tryz.prog 29 ⟨[fz ⟨[.agg ⟨[.string ⟨#[105, 98]⟩, .int .i64 w1]⟩, .agg ⟨[.string ⟨#[105, 99]⟩, .int .i64 w2]⟩]⟩, .string k]⟩ h0 (fun v _ => v = .tuple ⟨[.int .i64 (plI [⟨#[105, 98]⟩, ⟨#[105, 99]⟩] k), .bool (plF [⟨#[105, 98]⟩, ⟨#[105, 99]⟩] k)]⟩) := by
  simp only [keysP, List.mem_cons, List.not_mem_nil, or_false] at hk
  rcases hk with rfl | rfl | rfl | rfl | rfl | rfl
  · exact FnOK.ftree SA0_ok mixed Tryz.func29 somePL (pl12_0 w1 w2 (fun v => v = .tuple ⟨[.int .i64 0, .bool false]⟩)) rfl
  · exact FnOK.ftree SA0_ok mixed Tryz.func29 somePL (pl12_1 w1 w2 (fun v => v = .tuple ⟨[.int .i64 0, .bool false]⟩)) rfl
  · exact FnOK.ftree SA0_ok mixed Tryz.func29 somePL (pl12_2 w1 w2 (fun v => v = .tuple ⟨[.int .i64 0, .bool true]⟩)) rfl
  · exact FnOK.ftree SA0_ok mixed Tryz.func29 somePL (pl12_3 w1 w2 (fun v => v = .tuple ⟨[.int .i64 1, .bool true]⟩)) rfl
  · exact FnOK.ftree SA0_ok mixed Tryz.func29 somePL (pl12_4 w1 w2 (fun v => v = .tuple ⟨[.int .i64 2, .bool false]⟩)) rfl
  · exact FnOK.ftree SA0_ok mixed Tryz.func29 somePL (pl12_5 w1 w2 (fun v => v = .tuple ⟨[.int .i64 2, .bool false]⟩)) rfl
theorem pl13_fn (w1 w3 : Int) {k : ByteArray} (hk : k ∈ keysP) : FnOK 0 Tryz.prog 29 ⟨[fz ⟨[.agg ⟨[.string ⟨#[105, 98]⟩, .int .i64 w1]⟩, .agg ⟨[.string ⟨#[105, 100]⟩, .int .i64 w3]⟩]⟩, .string k]⟩ h0 (fun v _ => v = .tuple ⟨[.int .i64 (plI [⟨#[105, 98]⟩, ⟨#[105, 100]⟩] k), .bool (plF [⟨#[105, 98]⟩, ⟨#[105, 100]⟩] k)]⟩) := by
  simp only [keysP, List.mem_cons, List.not_mem_nil, or_false] at hk
  rcases hk with rfl | rfl | rfl | rfl | rfl | rfl
  · exact FnOK.ftree SA0_ok mixed Tryz.func29 somePL (pl13_0 w1 w3 (fun v => v = .tuple ⟨[.int .i64 0, .bool false]⟩)) rfl
  · exact FnOK.ftree SA0_ok mixed Tryz.func29 somePL (pl13_1 w1 w3 (fun v => v = .tuple ⟨[.int .i64 0, .bool false]⟩)) rfl
  · exact FnOK.ftree SA0_ok mixed Tryz.func29 somePL (pl13_2 w1 w3 (fun v => v = .tuple ⟨[.int .i64 0, .bool true]⟩)) rfl
  · exact FnOK.ftree SA0_ok mixed Tryz.func29 somePL (pl13_3 w1 w3 (fun v => v = .tuple ⟨[.int .i64 1, .bool false]⟩)) rfl
  · exact FnOK.ftree SA0_ok mixed Tryz.func29 somePL (pl13_4 w1 w3 (fun v => v = .tuple ⟨[.int .i64 1, .bool true]⟩)) rfl
  · exact FnOK.ftree SA0_ok mixed Tryz.func29 somePL (pl13_5 w1 w3 (fun v => v = .tuple ⟨[.int .i64 2, .bool false]⟩)) rfl
theorem pl23_fn (w2 w3 : Int) {k : ByteArray} (hk : k ∈ keysP) : FnOK 0 Tryz.prog 29 ⟨[fz ⟨[.agg ⟨[.string ⟨#[105, 99]⟩, .int .i64 w2]⟩, .agg ⟨[.string ⟨#[105, 100]⟩, .int .i64 w3]⟩]⟩, .string k]⟩ h0 (fun v _ => v = .tuple ⟨[.int .i64 (plI [⟨#[105, 99]⟩, ⟨#[105, 100]⟩] k), .bool (plF [⟨#[105, 99]⟩, ⟨#[105, 100]⟩] k)]⟩) := by
  simp only [keysP, List.mem_cons, List.not_mem_nil, or_false] at hk
  rcases hk with rfl | rfl | rfl | rfl | rfl | rfl
  · exact FnOK.ftree SA0_ok mixed Tryz.func29 somePL (pl23_0 w2 w3 (fun v => v = .tuple ⟨[.int .i64 0, .bool false]⟩)) rfl
  · exact FnOK.ftree SA0_ok mixed Tryz.func29 somePL (pl23_1 w2 w3 (fun v => v = .tuple ⟨[.int .i64 0, .bool false]⟩)) rfl
  · exact FnOK.ftree SA0_ok mixed Tryz.func29 somePL (pl23_2 w2 w3 (fun v => v = .tuple ⟨[.int .i64 0, .bool false]⟩)) rfl
  · exact FnOK.ftree SA0_ok mixed Tryz.func29 somePL (pl23_3 w2 w3 (fun v => v = .tuple ⟨[.int .i64 0, .bool true]⟩)) rfl
  · exact FnOK.ftree SA0_ok mixed Tryz.func29 somePL (pl23_4 w2 w3 (fun v => v = .tuple ⟨[.int .i64 1, .bool true]⟩)) rfl
  · exact FnOK.ftree SA0_ok mixed Tryz.func29 somePL (pl23_5 w2 w3 (fun v => v = .tuple ⟨[.int .i64 2, .bool false]⟩)) rfl
theorem pl012_fn (w0 w1 w2 : Int) {k : ByteArray} (hk : k ∈ keysP) : FnOK 0 Tryz.prog 29 ⟨[fz ⟨[.agg ⟨[.string ⟨#[105, 97]⟩, .int .i64 w0]⟩, .agg ⟨[.string ⟨#[105, 98]⟩, .int .i64 w1]⟩, .agg ⟨[.string ⟨#[105, 99]⟩, .int .i64 w2]⟩]⟩, .string k]⟩ h0 (fun v _ => v = .tuple ⟨[.int .i64 (plI [⟨#[105, 97]⟩, ⟨#[105, 98]⟩, ⟨#[105, 99]⟩] k), .bool (plF [⟨#[105, 97]⟩, ⟨#[105, 98]⟩, ⟨#[105, 99]⟩] k)]⟩) := by
  simp only [keysP, List.mem_cons, List.not_mem_nil, or_false] at hk
  rcases hk with rfl | rfl | rfl | rfl | rfl | rfl
  · exact FnOK.ftree SA0_ok mixed Tryz.func29 somePL (pl012_0 w0 w1 w2 (fun v => v = .tuple ⟨[.int .i64 0, .bool false]⟩)) rfl
  · exact FnOK.ftree SA0_ok mixed Tryz.func29 somePL (pl012_1 w0 w1 w2 (fun v => v = .tuple ⟨[.int .i64 0, .bool true]⟩)) rfl
  · exact FnOK.ftree SA0_ok mixed Tryz.func29 somePL (pl012_2 w0 w1 w2 (fun v => v = .tuple ⟨[.int .i64 1, .bool true]⟩)) rfl
  · exact FnOK.ftree SA0_ok mixed Tryz.func29 somePL (pl012_3 w0 w1 w2 (fun v => v = .tuple ⟨[.int .i64 2, .bool true]⟩)) rfl
  · exact FnOK.ftree SA0_ok mixed Tryz.func29 somePL (pl012_4 w0 w1 w2 (fun v => v = .tuple ⟨[.int .i64 3, .bool false]⟩)) rfl
  · exact FnOK.ftree SA0_ok mixed Tryz.func29 somePL (pl012_5 w0 w1 w2 (fun v => v = .tuple ⟨[.int .i64 3, .bool false]⟩)) rfl
theorem pl013_fn (w0 w1 w3 : Int) {k : ByteArray} (hk : k ∈ keysP) : FnOK 0 Tryz.prog 29 ⟨[fz ⟨[.agg ⟨[.string ⟨#[105, 97]⟩, .int .i64 w0]⟩, .agg ⟨[.string ⟨#[105, 98]⟩, .int .i64 w1]⟩, .agg ⟨[.string ⟨#[105, 100]⟩, .int .i64 w3]⟩]⟩, .string k]⟩ h0 (fun v _ => v = .tuple ⟨[.int .i64 (plI [⟨#[105, 97]⟩, ⟨#[105, 98]⟩, ⟨#[105, 100]⟩] k), .bool (plF [⟨#[105, 97]⟩, ⟨#[105, 98]⟩, ⟨#[105, 100]⟩] k)]⟩) := by
  simp only [keysP, List.mem_cons, List.not_mem_nil, or_false] at hk
  rcases hk with rfl | rfl | rfl | rfl | rfl | rfl
  · exact FnOK.ftree SA0_ok mixed Tryz.func29 somePL (pl013_0 w0 w1 w3 (fun v => v = .tuple ⟨[.int .i64 0, .bool false]⟩)) rfl
  · exact FnOK.ftree SA0_ok mixed Tryz.func29 somePL (pl013_1 w0 w1 w3 (fun v => v = .tuple ⟨[.int .i64 0, .bool true]⟩)) rfl
  · exact FnOK.ftree SA0_ok mixed Tryz.func29 somePL (pl013_2 w0 w1 w3 (fun v => v = .tuple ⟨[.int .i64 1, .bool true]⟩)) rfl
  · exact FnOK.ftree SA0_ok mixed Tryz.func29 somePL (pl013_3 w0 w1 w3 (fun v => v = .tuple ⟨[.int .i64 2, .bool false]⟩)) rfl
  · exact FnOK.ftree SA0_ok mixed Tryz.func29 somePL (pl013_4 w0 w1 w3 (fun v => v = .tuple ⟨[.int .i64 2, .bool true]⟩)) rfl
  · exact FnOK.ftree SA0_ok mixed Tryz.func29 somePL (pl013_5 w0 w1 w3 (fun v => v = .tuple ⟨[.int .i64 3, .bool false]⟩)) rfl
theorem pl023_fn (w0 w2 w3 : Int) {k : ByteArray} (hk : k ∈ keysP) : FnOK 0 Tryz.prog 29 ⟨[fz ⟨[.agg ⟨[.string ⟨#[105, 97]⟩, .int .i64 w0]⟩, .agg ⟨[.string ⟨#[105, 99]⟩, .int .i64 w2]⟩, .agg ⟨[.string ⟨#[105, 100]⟩, .int .i64 w3]⟩]⟩, .string k]⟩ h0 (fun v _ => v = .tuple ⟨[.int .i64 (plI [⟨#[105, 97]⟩, ⟨#[105, 99]⟩, ⟨#[105, 100]⟩] k), .bool (plF [⟨#[105, 97]⟩, ⟨#[105, 99]⟩, ⟨#[105, 100]⟩] k)]⟩) := by
  simp only [keysP, List.mem_cons, List.not_mem_nil, or_false] at hk
  rcases hk with rfl | rfl | rfl | rfl | rfl | rfl
  · exact FnOK.ftree SA0_ok mixed Tryz.func29 somePL (pl023_0 w0 w2 w3 (fun v => v = .tuple ⟨[.int .i64 0, .bool false]⟩)) rfl
  · exact FnOK.ftree SA0_ok mixed Tryz.func29 somePL (pl023_1 w0 w2 w3 (fun v => v = .tuple ⟨[.int .i64 0, .bool true]⟩)) rfl
  · exact FnOK.ftree SA0_ok mixed Tryz.func29 somePL (pl023_2 w0 w2 w3 (fun v => v = .tuple ⟨[.int .i64 1, .bool false]⟩)) rfl
  · exact FnOK.ftree SA0_ok mixed Tryz.func29 somePL (pl023_3 w0 w2 w3 (fun v => v = .tuple ⟨[.int .i64 1, .bool true]⟩)) rfl
  · exact FnOK.ftree SA0_ok mixed Tryz.func29 somePL (pl023_4 w0 w2 w3 (fun v => v = .tuple ⟨[.int .i64 2, .bool true]⟩)) rfl
  · exact FnOK.ftree SA0_ok mixed Tryz.func29 somePL (pl023_5 w0 w2 w3 (fun v => v = .tuple ⟨[.int .i64 3, .bool false]⟩)) rfl
theorem pl123_fn (w1 w2 w3 : Int) {k : ByteArray} (hk : k ∈ keysP) : FnOK 0 Tryz.prog 29 ⟨[fz ⟨[.agg ⟨[.string ⟨#[105, 98]⟩, .int .i64 w1]⟩, .agg ⟨[.string ⟨#[105, 99]⟩, .int .i64 w2]⟩, .agg ⟨[.string ⟨#[105, 100]⟩, .int .i64 w3]⟩]⟩, .string k]⟩ h0 (fun v _ => v = .tuple ⟨[.int .i64 (plI [⟨#[105, 98]⟩, ⟨#[105, 99]⟩, ⟨#[105, 100]⟩] k), .bool (plF [⟨#[105, 98]⟩, ⟨#[105, 99]⟩, ⟨#[105, 100]⟩] k)]⟩) := by
  simp only [keysP, List.mem_cons, List.not_mem_nil, or_false] at hk
  rcases hk with rfl | rfl | rfl | rfl | rfl | rfl
  · exact FnOK.ftree SA0_ok mixed Tryz.func29 somePL (pl123_0 w1 w2 w3 (fun v => v = .tuple ⟨[.int .i64 0, .bool false]⟩)) rfl
  · exact FnOK.ftree SA0_ok mixed Tryz.func29 somePL (pl123_1 w1 w2 w3 (fun v => v = .tuple ⟨[.int .i64 0, .bool false]⟩)) rfl
  · exact FnOK.ftree SA0_ok mixed Tryz.func29 somePL (pl123_2 w1 w2 w3 (fun v => v = .tuple ⟨[.int .i64 0, .bool true]⟩)) rfl
  · exact FnOK.ftree SA0_ok mixed Tryz.func29 somePL (pl123_3 w1 w2 w3 (fun v => v = .tuple ⟨[.int .i64 1, .bool true]⟩)) rfl
  · exact FnOK.ftree SA0_ok mixed Tryz.func29 somePL (pl123_4 w1 w2 w3 (fun v => v = .tuple ⟨[.int .i64 2, .bool true]⟩)) rfl
  · exact FnOK.ftree SA0_ok mixed Tryz.func29 somePL (pl123_5 w1 w2 w3 (fun v => v = .tuple ⟨[.int .i64 3, .bool false]⟩)) rfl
theorem pl0123_fn (w0 w1 w2 w3 : Int) {k : ByteArray} (hk : k ∈ keysP) : FnOK 0 Tryz.prog 29 ⟨[fz ⟨[.agg ⟨[.string ⟨#[105, 97]⟩, .int .i64 w0]⟩, .agg ⟨[.string ⟨#[105, 98]⟩, .int .i64 w1]⟩, .agg ⟨[.string ⟨#[105, 99]⟩, .int .i64 w2]⟩, .agg ⟨[.string ⟨#[105, 100]⟩, .int .i64 w3]⟩]⟩, .string k]⟩ h0 (fun v _ => v = .tuple ⟨[.int .i64 (plI [⟨#[105, 97]⟩, ⟨#[105, 98]⟩, ⟨#[105, 99]⟩, ⟨#[105, 100]⟩] k), .bool (plF [⟨#[105, 97]⟩, ⟨#[105, 98]⟩, ⟨#[105, 99]⟩, ⟨#[105, 100]⟩] k)]⟩) := by
  simp only [keysP, List.mem_cons, List.not_mem_nil, or_false] at hk
  rcases hk with rfl | rfl | rfl | rfl | rfl | rfl
  · exact FnOK.ftree SA0_ok mixed Tryz.func29 somePL (pl0123_0 w0 w1 w2 w3 (fun v => v = .tuple ⟨[.int .i64 0, .bool false]⟩)) rfl
  · exact FnOK.ftree SA0_ok mixed Tryz.func29 somePL (pl0123_1 w0 w1 w2 w3 (fun v => v = .tuple ⟨[.int .i64 0, .bool true]⟩)) rfl
  · exact FnOK.ftree SA0_ok mixed Tryz.func29 somePL (pl0123_2 w0 w1 w2 w3 (fun v => v = .tuple ⟨[.int .i64 1, .bool true]⟩)) rfl
  · exact FnOK.ftree SA0_ok mixed Tryz.func29 somePL (pl0123_3 w0 w1 w2 w3 (fun v => v = .tuple ⟨[.int .i64 2, .bool true]⟩)) rfl
  · exact FnOK.ftree SA0_ok mixed Tryz.func29 somePL (pl0123_4 w0 w1 w2 w3 (fun v => v = .tuple ⟨[.int .i64 3, .bool true]⟩)) rfl
  · exact FnOK.ftree SA0_ok mixed Tryz.func29 somePL (pl0123_5 w0 w1 w2 w3 (fun v => v = .tuple ⟨[.int .i64 4, .bool false]⟩)) rfl
theorem pl_fn {vs : List Value} (h : okI vs = true) {k : ByteArray} (hk : inPK k = true) : FnOK 0 Tryz.prog 29 ⟨[fz ⟨vs⟩, .string k]⟩ h0 (fun v _ => v = .tuple ⟨[.int .i64 (plI (vs.map keyV) k), .bool (plF (vs.map keyV) k)]⟩) := by
  obtain ⟨L, ⟨hs, ho⟩, rfl⟩ := okI_iff.1 h
  rw [keyV_map]
  simp only [keyI, List.mem_cons, List.not_mem_nil, or_false] at hs
  rcases hs with hs | hs | hs | hs | hs | hs | hs | hs | hs | hs | hs | hs | hs | hs | hs
  · obtain ⟨w0, L0, rfl, h0⟩ := i1 hs
    have hz := i0 h0
    subst hz
    exact pl0_fn w0 (inPK_mem hk)
  · obtain ⟨w1, L1, rfl, h1⟩ := i1 hs
    have hz := i0 h1
    subst hz
    exact pl1_fn w1 (inPK_mem hk)
  · obtain ⟨w2, L2, rfl, h2⟩ := i1 hs
    have hz := i0 h2
    subst hz
    exact pl2_fn w2 (inPK_mem hk)
  · obtain ⟨w3, L3, rfl, h3⟩ := i1 hs
    have hz := i0 h3
    subst hz
    exact pl3_fn w3 (inPK_mem hk)
  · obtain ⟨w0, L0, rfl, h0⟩ := i1 hs
    obtain ⟨w1, L1, rfl, h1⟩ := i1 h0
    have hz := i0 h1
    subst hz
    exact pl01_fn w0 w1 (inPK_mem hk)
  · obtain ⟨w0, L0, rfl, h0⟩ := i1 hs
    obtain ⟨w2, L2, rfl, h2⟩ := i1 h0
    have hz := i0 h2
    subst hz
    exact pl02_fn w0 w2 (inPK_mem hk)
  · obtain ⟨w0, L0, rfl, h0⟩ := i1 hs
    obtain ⟨w3, L3, rfl, h3⟩ := i1 h0
    have hz := i0 h3
    subst hz
    exact pl03_fn w0 w3 (inPK_mem hk)
  · obtain ⟨w1, L1, rfl, h1⟩ := i1 hs
    obtain ⟨w2, L2, rfl, h2⟩ := i1 h1
    have hz := i0 h2
    subst hz
    exact pl12_fn w1 w2 (inPK_mem hk)
  · obtain ⟨w1, L1, rfl, h1⟩ := i1 hs
    obtain ⟨w3, L3, rfl, h3⟩ := i1 h1
    have hz := i0 h3
    subst hz
    exact pl13_fn w1 w3 (inPK_mem hk)
  · obtain ⟨w2, L2, rfl, h2⟩ := i1 hs
    obtain ⟨w3, L3, rfl, h3⟩ := i1 h2
    have hz := i0 h3
    subst hz
    exact pl23_fn w2 w3 (inPK_mem hk)
  · obtain ⟨w0, L0, rfl, h0⟩ := i1 hs
    obtain ⟨w1, L1, rfl, h1⟩ := i1 h0
    obtain ⟨w2, L2, rfl, h2⟩ := i1 h1
    have hz := i0 h2
    subst hz
    exact pl012_fn w0 w1 w2 (inPK_mem hk)
  · obtain ⟨w0, L0, rfl, h0⟩ := i1 hs
    obtain ⟨w1, L1, rfl, h1⟩ := i1 h0
    obtain ⟨w3, L3, rfl, h3⟩ := i1 h1
    have hz := i0 h3
    subst hz
    exact pl013_fn w0 w1 w3 (inPK_mem hk)
  · obtain ⟨w0, L0, rfl, h0⟩ := i1 hs
    obtain ⟨w2, L2, rfl, h2⟩ := i1 h0
    obtain ⟨w3, L3, rfl, h3⟩ := i1 h2
    have hz := i0 h3
    subst hz
    exact pl023_fn w0 w2 w3 (inPK_mem hk)
  · obtain ⟨w1, L1, rfl, h1⟩ := i1 hs
    obtain ⟨w2, L2, rfl, h2⟩ := i1 h1
    obtain ⟨w3, L3, rfl, h3⟩ := i1 h2
    have hz := i0 h3
    subst hz
    exact pl123_fn w1 w2 w3 (inPK_mem hk)
  · obtain ⟨w0, L0, rfl, h0⟩ := i1 hs
    obtain ⟨w1, L1, rfl, h1⟩ := i1 h0
    obtain ⟨w2, L2, rfl, h2⟩ := i1 h1
    obtain ⟨w3, L3, rfl, h3⟩ := i1 h2
    have hz := i0 h3
    subst hz
    exact pl0123_fn w0 w1 w2 w3 (inPK_mem hk)
theorem ci_fn {vs : List Value} (h : okI vs = true) : FnOK 0 Tryz.prog 27 ⟨[fz ⟨vs⟩]⟩ h0 (fun v _ => v = .int .i64 0) := by
  obtain ⟨L, ⟨hs, ho⟩, rfl⟩ := okI_iff.1 h
  simp only [keyI, List.mem_cons, List.not_mem_nil, or_false] at hs
  rcases hs with hs | hs | hs | hs | hs | hs | hs | hs | hs | hs | hs | hs | hs | hs | hs
  · obtain ⟨w0, L0, rfl, h0⟩ := i1 hs
    have hz := i0 h0
    subst hz
    exact FnOK.ftree SA0_ok mixed Tryz.func27 someCI (ci0 w0 (fun v => v = .int .i64 0)) (w_seg (ho (⟨#[105, 97]⟩, w0) (by simp)) rfl)
  · obtain ⟨w1, L1, rfl, h1⟩ := i1 hs
    have hz := i0 h1
    subst hz
    exact FnOK.ftree SA0_ok mixed Tryz.func27 someCI (ci1 w1 (fun v => v = .int .i64 0)) (w_seg (ho (⟨#[105, 98]⟩, w1) (by simp)) rfl)
  · obtain ⟨w2, L2, rfl, h2⟩ := i1 hs
    have hz := i0 h2
    subst hz
    exact FnOK.ftree SA0_ok mixed Tryz.func27 someCI (ci2 w2 (fun v => v = .int .i64 0)) (w_seg (ho (⟨#[105, 99]⟩, w2) (by simp)) rfl)
  · obtain ⟨w3, L3, rfl, h3⟩ := i1 hs
    have hz := i0 h3
    subst hz
    exact FnOK.ftree SA0_ok mixed Tryz.func27 someCI (ci3 w3 (fun v => v = .int .i64 0)) (w_seg (ho (⟨#[105, 100]⟩, w3) (by simp)) rfl)
  · obtain ⟨w0, L0, rfl, h0⟩ := i1 hs
    obtain ⟨w1, L1, rfl, h1⟩ := i1 h0
    have hz := i0 h1
    subst hz
    exact FnOK.ftree SA0_ok mixed Tryz.func27 someCI (ci01 w0 w1 (fun v => v = .int .i64 0)) (w_seg (ho (⟨#[105, 97]⟩, w0) (by simp)) (w_seg (ho (⟨#[105, 98]⟩, w1) (by simp)) rfl))
  · obtain ⟨w0, L0, rfl, h0⟩ := i1 hs
    obtain ⟨w2, L2, rfl, h2⟩ := i1 h0
    have hz := i0 h2
    subst hz
    exact FnOK.ftree SA0_ok mixed Tryz.func27 someCI (ci02 w0 w2 (fun v => v = .int .i64 0)) (w_seg (ho (⟨#[105, 97]⟩, w0) (by simp)) (w_seg (ho (⟨#[105, 99]⟩, w2) (by simp)) rfl))
  · obtain ⟨w0, L0, rfl, h0⟩ := i1 hs
    obtain ⟨w3, L3, rfl, h3⟩ := i1 h0
    have hz := i0 h3
    subst hz
    exact FnOK.ftree SA0_ok mixed Tryz.func27 someCI (ci03 w0 w3 (fun v => v = .int .i64 0)) (w_seg (ho (⟨#[105, 97]⟩, w0) (by simp)) (w_seg (ho (⟨#[105, 100]⟩, w3) (by simp)) rfl))
  · obtain ⟨w1, L1, rfl, h1⟩ := i1 hs
    obtain ⟨w2, L2, rfl, h2⟩ := i1 h1
    have hz := i0 h2
    subst hz
    exact FnOK.ftree SA0_ok mixed Tryz.func27 someCI (ci12 w1 w2 (fun v => v = .int .i64 0)) (w_seg (ho (⟨#[105, 98]⟩, w1) (by simp)) (w_seg (ho (⟨#[105, 99]⟩, w2) (by simp)) rfl))
  · obtain ⟨w1, L1, rfl, h1⟩ := i1 hs
    obtain ⟨w3, L3, rfl, h3⟩ := i1 h1
    have hz := i0 h3
    subst hz
    exact FnOK.ftree SA0_ok mixed Tryz.func27 someCI (ci13 w1 w3 (fun v => v = .int .i64 0)) (w_seg (ho (⟨#[105, 98]⟩, w1) (by simp)) (w_seg (ho (⟨#[105, 100]⟩, w3) (by simp)) rfl))
  · obtain ⟨w2, L2, rfl, h2⟩ := i1 hs
    obtain ⟨w3, L3, rfl, h3⟩ := i1 h2
    have hz := i0 h3
    subst hz
    exact FnOK.ftree SA0_ok mixed Tryz.func27 someCI (ci23 w2 w3 (fun v => v = .int .i64 0)) (w_seg (ho (⟨#[105, 99]⟩, w2) (by simp)) (w_seg (ho (⟨#[105, 100]⟩, w3) (by simp)) rfl))
  · obtain ⟨w0, L0, rfl, h0⟩ := i1 hs
    obtain ⟨w1, L1, rfl, h1⟩ := i1 h0
    obtain ⟨w2, L2, rfl, h2⟩ := i1 h1
    have hz := i0 h2
    subst hz
    exact FnOK.ftree SA0_ok mixed Tryz.func27 someCI (ci012 w0 w1 w2 (fun v => v = .int .i64 0)) (w_seg (ho (⟨#[105, 97]⟩, w0) (by simp)) (w_seg (ho (⟨#[105, 98]⟩, w1) (by simp)) (w_seg (ho (⟨#[105, 99]⟩, w2) (by simp)) rfl)))
  · obtain ⟨w0, L0, rfl, h0⟩ := i1 hs
    obtain ⟨w1, L1, rfl, h1⟩ := i1 h0
    obtain ⟨w3, L3, rfl, h3⟩ := i1 h1
    have hz := i0 h3
    subst hz
    exact FnOK.ftree SA0_ok mixed Tryz.func27 someCI (ci013 w0 w1 w3 (fun v => v = .int .i64 0)) (w_seg (ho (⟨#[105, 97]⟩, w0) (by simp)) (w_seg (ho (⟨#[105, 98]⟩, w1) (by simp)) (w_seg (ho (⟨#[105, 100]⟩, w3) (by simp)) rfl)))
  · obtain ⟨w0, L0, rfl, h0⟩ := i1 hs
    obtain ⟨w2, L2, rfl, h2⟩ := i1 h0
    obtain ⟨w3, L3, rfl, h3⟩ := i1 h2
    have hz := i0 h3
    subst hz
    exact FnOK.ftree SA0_ok mixed Tryz.func27 someCI (ci023 w0 w2 w3 (fun v => v = .int .i64 0)) (w_seg (ho (⟨#[105, 97]⟩, w0) (by simp)) (w_seg (ho (⟨#[105, 99]⟩, w2) (by simp)) (w_seg (ho (⟨#[105, 100]⟩, w3) (by simp)) rfl)))
  · obtain ⟨w1, L1, rfl, h1⟩ := i1 hs
    obtain ⟨w2, L2, rfl, h2⟩ := i1 h1
    obtain ⟨w3, L3, rfl, h3⟩ := i1 h2
    have hz := i0 h3
    subst hz
    exact FnOK.ftree SA0_ok mixed Tryz.func27 someCI (ci123 w1 w2 w3 (fun v => v = .int .i64 0)) (w_seg (ho (⟨#[105, 98]⟩, w1) (by simp)) (w_seg (ho (⟨#[105, 99]⟩, w2) (by simp)) (w_seg (ho (⟨#[105, 100]⟩, w3) (by simp)) rfl)))
  · obtain ⟨w0, L0, rfl, h0⟩ := i1 hs
    obtain ⟨w1, L1, rfl, h1⟩ := i1 h0
    obtain ⟨w2, L2, rfl, h2⟩ := i1 h1
    obtain ⟨w3, L3, rfl, h3⟩ := i1 h2
    have hz := i0 h3
    subst hz
    exact FnOK.ftree SA0_ok mixed Tryz.func27 someCI (ci0123 w0 w1 w2 w3 (fun v => v = .int .i64 0)) (w_seg (ho (⟨#[105, 97]⟩, w0) (by simp)) (w_seg (ho (⟨#[105, 98]⟩, w1) (by simp)) (w_seg (ho (⟨#[105, 99]⟩, w2) (by simp)) (w_seg (ho (⟨#[105, 100]⟩, w3) (by simp)) rfl))))
noncomputable def spPl (f : FuncId) (args : Array Value) (h : AH) : Option (Bool × Value × AH) :=
  cond (Nat.beq f 29) (match args with
    | ⟨[.func (.yield 0) ⟨vs⟩ ⟨[]⟩, .string k]⟩ => some (okI vs && inPK k, .tuple ⟨[.int .i64 (plI (vs.map keyV) k), .bool (plF (vs.map keyV) k)]⟩, h)
    | _ => none) none
theorem spPl_ok : SpOK spPl := by
  intro f args h v h' hs
  unfold spPl at hs
  obtain ⟨hf, hs2⟩ := cond_some hs
  clear hs
  have := Nat.eq_of_beq_eq_true hf
  subst this
  split at hs2
  · injection hs2 with hs
    injection hs with hb hs
    injection hs with hv hh
    subst hv hh
    rw [Bool.and_eq_true] at hb
    exact ⟨FnOK.pure (pl_fn hb.1 hb.2) rfl rfl h, Nat.le_refl _⟩
  · cases hs2
noncomputable def spCi (f : FuncId) (args : Array Value) (h : AH) : Option (Bool × Value × AH) :=
  cond (Nat.beq f 27) (match args with
    | ⟨[.func (.yield 0) ⟨vs⟩ ⟨[]⟩]⟩ => some (okI vs, .int .i64 0, h)
    | _ => none) none
theorem spCi_ok : SpOK spCi := by
  intro f args h v h' hs
  unfold spCi at hs
  obtain ⟨hf, hs2⟩ := cond_some hs
  clear hs
  have := Nat.eq_of_beq_eq_true hf
  subst this
  split at hs2
  · injection hs2 with hs
    injection hs with hb hs
    injection hs with hv hh
    subst hv hh
    exact ⟨FnOK.pure (ci_fn hb) rfl rfl h, Nat.le_refl _⟩
  · cases hs2
end Go.Proofs.YtbeodpcdjlphkaaGreatDoor
