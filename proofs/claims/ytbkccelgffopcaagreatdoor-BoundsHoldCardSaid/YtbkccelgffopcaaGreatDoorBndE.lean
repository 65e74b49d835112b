/-
  'Bounded' as a specification.
-/
import Derived.Test.YtbkccelgffopcaaGreatDoorBndB
import Derived.Test.YtbkccelgffopcaaGreatDoorBndC
import Derived.Test.YtbkccelgffopcaaGreatDoorBndD
namespace Go.Proofs.YtbkccelgffopcaaGreatDoor
open Go.Ev Go.RowKit

theorem perm_map_inv {α β : Type} {f : α → β} {a b : List β} (h : a.Perm b) : ∀ l : List α, b = l.map f → ∃ c : List α, c.Perm l ∧ a = c.map f := by
  induction h with
  | nil =>
    intro l hl
    cases l with
    | nil => exact ⟨[], List.Perm.refl _, rfl⟩
    | cons x l => cases hl
  | cons x _ ih =>
    intro l hl
    cases l with
    | nil => cases hl
    | cons y l =>
      simp only [List.map_cons, List.cons.injEq] at hl
      obtain ⟨c, h1, h2⟩ := ih l hl.2
      exact ⟨y :: c, h1.cons y, by rw [List.map_cons, ← hl.1, ← h2]⟩
  | swap x y m =>
    intro l hl
    match l, hl with
    | [], hl => cases hl
    | [_], hl => simp at hl
    | p :: q :: l, hl =>
      simp only [List.map_cons, List.cons.injEq] at hl
      exact ⟨q :: p :: l, List.Perm.swap _ _ _, by rw [List.map_cons, List.map_cons, ← hl.1, ← hl.2.1, ← hl.2.2]⟩
  | trans _ _ ih1 ih2 =>
    intro l hl
    obtain ⟨c, h1, h2⟩ := ih2 l hl
    obtain ⟨d, h3, h4⟩ := ih1 c h2
    exact ⟨d, h3.trans h1, h4⟩
def insAll {α : Type} (p : α) : List α → List (List α)
  | [] => [[p]]
  | y :: l => (p :: y :: l) :: (insAll p l).map (y :: ·)
def perms {α : Type} : List α → List (List α)
  | [] => [[]]
  | p :: l => (perms l).flatMap (insAll p)
theorem insAll_mem {α : Type} (p : α) : ∀ (a b : List α), a ++ p :: b ∈ insAll p (a ++ b)
  | [], [] => by simp [insAll]
  | [], y :: b => by simp [insAll]
  | x :: a, b => by
    simp only [List.cons_append, insAll, List.mem_cons, List.mem_map]
    exact .inr ⟨_, insAll_mem p a b, rfl⟩
theorem perms_mem {α : Type} : ∀ (l ys : List α), ys.Perm l → ys ∈ perms l
  | [], ys, h => by simp [perms, h.eq_nil]
  | p :: l, ys, h => by
    have hp : p ∈ ys := h.symm.subset (by simp)
    obtain ⟨a, b, rfl⟩ := List.append_of_mem hp
    have h2 : (a ++ b).Perm l := by
      have := List.perm_middle.symm.trans h
      exact (List.perm_cons p).1 this
    simp only [perms, List.mem_flatMap]
    exact ⟨a ++ b, perms_mem l _ h2, insAll_mem p a b⟩

/-- Somebody who has not too much, if there is one. -/
def Good (l : List KWN) (fa : Int) (a : ByteArray) : Prop := ∃ p ∈ l, p.1 = a ∧ (fitB l fa p = true ∨ ∀ q ∈ l, fitB l fa q = false)
theorem leastK_ok {Q : ByteArray → Prop} : ∀ (l : List KWN) (best : KWN), (∀ p ∈ best :: l, Q p.1) → leastK l best Q
  | [], best, h => h best (by simp)
  | p :: l, best, h => by
    refine cond_mk (fun _ => leastK_ok l p fun q hq => h q ?_) (fun _ => leastK_ok l best fun q hq => h q ?_)
    · simp only [List.mem_cons] at hq ⊢; exact .inr hq
    · simp only [List.mem_cons] at hq ⊢; rcases hq with hq | hq; exact .inl hq; exact .inr (.inr hq)
theorem loopB_ok {l : List KWN} {fa : Int} {X : Prop} {Q : ByteArray → Prop} : ∀ (ys : List KWN), (∀ p ∈ ys, fitB l fa p = true → Q p.1) → ((∀ p ∈ ys, fitB l fa p = false) → X) → loopB l fa ys X Q
  | [], _, hX => hX (fun _ h => by cases h)
  | p :: ys, h, hX => by
    refine cond_mk (fun hp => h p (by simp) hp) (fun hp => loopB_ok ys (fun q hq => h q (by simp [hq])) (fun hall => hX fun q hq => ?_))
    rcases List.mem_cons.1 hq with rfl | hq
    · exact hp
    · exact hall q hq
theorem nsK_ok {E X : Prop} (hX : X) : ∀ (l : List KWN), (∀ p ∈ l, 0 ≤ p.2.2 ∧ p.2.2 ≤ 1000000) → nsK l E X
  | [], _ => hX
  | p :: l, h => by
    have hp := h p (by simp)
    exact pick_f (by simp; omega) (pick_f (by simp; omega) (nsK_ok hX l fun q hq => h q (by simp [hq])))
theorem bdK_ok {l : List KWN} {p0 : KWN} {rest ys : List KWN} {k : ByteArray} {fa : Int} {Q : Value → Option Obj → Prop} (hl : l = p0 :: rest) (hys : ys.Perm l) (hw : ∀ p ∈ l, 1 ≤ p.2.1 ∧ p.2.1 ≤ 100) (hn : ∀ p ∈ l, 0 ≤ p.2.2 ∧ p.2.2 ≤ 1000000)
    (h1 : 1000 ≤ fa) (h2 : fa ≤ 1000000) (hk0 : (k.toList == ByteArray.toList ⟨#[]⟩) = false) (hk1 : k.size ≤ 40) (ht : sortO k (instKV l) = instKV ys)
    (hQ : ∀ a, Good l fa a → Q (okB a) (some (.cells ⟨loadC l⟩ 46 (0, 0)))) : bdK l p0 rest ys k fa Q := by
  have e : plist ((instKV l).map instV) = instKV l := plist_map _
  unfold bdK
  refine need_mk ?_ (nsK_ok ?_ l hn)
  · rw [e, List.all_eq_true]
    intro q hq
    obtain ⟨p, hp, rfl⟩ := List.mem_map.1 hq
    have := hw p hp
    simp [wtOk, this.1, this.2]
  refine pick_f (by simp; omega) (pick_f (by simp; omega) (pick_f hk0 (pick_f (by simp; omega) (need_mk ?_ (loopB_ok ys ?_ ?_)))))
  · rw [Bool.and_eq_true, Nat.ble_eq, toldB_eq, e]
    exact ⟨by omega, ht⟩
  · intro p hp hf
    exact hQ _ ⟨p, hys.subset hp, rfl, .inl hf⟩
  · intro hall
    refine leastK_ok rest p0 fun p hp => hQ _ ⟨p, by rw [hl]; exact hp, rfl, .inr fun q hq => hall q (hys.symm.subset hq)⟩

def BndP (l : List KWN) (k : ByteArray) (fa : Int) (a : ByteArray) : Prop :=
  Good l fa a ∧ FnOK 1 Tryz.prog 16 ⟨[fz ⟨(instKV l).map instV⟩, .slice (some ⟨0, 0, none⟩) l.length l.length, .string k, .int .i64 fa]⟩ ⟨1, 1, [(0, .cells ⟨loadC l⟩ 46)]⟩ (fun u g => u = okB a ∧ g.get 0 = some (.cells ⟨loadC l⟩ 46 (0, 0)))
theorem bnd1111 (k : ByteArray) (fa w1 w2 w3 w4 n1 n2 n3 n4 : Int) (hw : ∀ p ∈ ([(⟨#[105, 97]⟩, w1, n1), (⟨#[105, 98]⟩, w2, n2), (⟨#[105, 99]⟩, w3, n3), (⟨#[105, 100]⟩, w4, n4)] : List KWN), 1 ≤ p.2.1 ∧ p.2.1 ≤ 100) (hn : ∀ p ∈ ([(⟨#[105, 97]⟩, w1, n1), (⟨#[105, 98]⟩, w2, n2), (⟨#[105, 99]⟩, w3, n3), (⟨#[105, 100]⟩, w4, n4)] : List KWN), 0 ≤ p.2.2 ∧ p.2.2 ≤ 1000000)
    (h1 : 1000 ≤ fa) (h2 : fa ≤ 1000000) (hk0 : (k.toList == ByteArray.toList ⟨#[]⟩) = false) (hk1 : k.size ≤ 40) : ∃ a, BndP [(⟨#[105, 97]⟩, w1, n1), (⟨#[105, 98]⟩, w2, n2), (⟨#[105, 99]⟩, w3, n3), (⟨#[105, 100]⟩, w4, n4)] k fa a := by
  obtain ⟨ys, hp, hs⟩ := perm_map_inv (sortO_perm k (instKV [(⟨#[105, 97]⟩, w1, n1), (⟨#[105, 98]⟩, w2, n2), (⟨#[105, 99]⟩, w3, n3), (⟨#[105, 100]⟩, w4, n4)])) ([(⟨#[105, 97]⟩, w1, n1), (⟨#[105, 98]⟩, w2, n2), (⟨#[105, 99]⟩, w3, n3), (⟨#[105, 100]⟩, w4, n4)] : List KWN) rfl
  have hm := perms_mem _ _ hp
  rw [show perms ([(⟨#[105, 97]⟩, w1, n1), (⟨#[105, 98]⟩, w2, n2), (⟨#[105, 99]⟩, w3, n3), (⟨#[105, 100]⟩, w4, n4)] : List KWN) = [[(⟨#[105, 97]⟩, w1, n1), (⟨#[105, 98]⟩, w2, n2), (⟨#[105, 99]⟩, w3, n3), (⟨#[105, 100]⟩, w4, n4)], [(⟨#[105, 98]⟩, w2, n2), (⟨#[105, 97]⟩, w1, n1), (⟨#[105, 99]⟩, w3, n3), (⟨#[105, 100]⟩, w4, n4)], [(⟨#[105, 98]⟩, w2, n2), (⟨#[105, 99]⟩, w3, n3), (⟨#[105, 97]⟩, w1, n1), (⟨#[105, 100]⟩, w4, n4)], [(⟨#[105, 98]⟩, w2, n2), (⟨#[105, 99]⟩, w3, n3), (⟨#[105, 100]⟩, w4, n4), (⟨#[105, 97]⟩, w1, n1)], [(⟨#[105, 97]⟩, w1, n1), (⟨#[105, 99]⟩, w3, n3), (⟨#[105, 98]⟩, w2, n2), (⟨#[105, 100]⟩, w4, n4)], [(⟨#[105, 99]⟩, w3, n3), (⟨#[105, 97]⟩, w1, n1), (⟨#[105, 98]⟩, w2, n2), (⟨#[105, 100]⟩, w4, n4)], [(⟨#[105, 99]⟩, w3, n3), (⟨#[105, 98]⟩, w2, n2), (⟨#[105, 97]⟩, w1, n1), (⟨#[105, 100]⟩, w4, n4)], [(⟨#[105, 99]⟩, w3, n3), (⟨#[105, 98]⟩, w2, n2), (⟨#[105, 100]⟩, w4, n4), (⟨#[105, 97]⟩, w1, n1)], [(⟨#[105, 97]⟩, w1, n1), (⟨#[105, 99]⟩, w3, n3), (⟨#[105, 100]⟩, w4, n4), (⟨#[105, 98]⟩, w2, n2)], [(⟨#[105, 99]⟩, w3, n3), (⟨#[105, 97]⟩, w1, n1), (⟨#[105, 100]⟩, w4, n4), (⟨#[105, 98]⟩, w2, n2)], [(⟨#[105, 99]⟩, w3, n3), (⟨#[105, 100]⟩, w4, n4), (⟨#[105, 97]⟩, w1, n1), (⟨#[105, 98]⟩, w2, n2)], [(⟨#[105, 99]⟩, w3, n3), (⟨#[105, 100]⟩, w4, n4), (⟨#[105, 98]⟩, w2, n2), (⟨#[105, 97]⟩, w1, n1)], [(⟨#[105, 97]⟩, w1, n1), (⟨#[105, 98]⟩, w2, n2), (⟨#[105, 100]⟩, w4, n4), (⟨#[105, 99]⟩, w3, n3)], [(⟨#[105, 98]⟩, w2, n2), (⟨#[105, 97]⟩, w1, n1), (⟨#[105, 100]⟩, w4, n4), (⟨#[105, 99]⟩, w3, n3)], [(⟨#[105, 98]⟩, w2, n2), (⟨#[105, 100]⟩, w4, n4), (⟨#[105, 97]⟩, w1, n1), (⟨#[105, 99]⟩, w3, n3)], [(⟨#[105, 98]⟩, w2, n2), (⟨#[105, 100]⟩, w4, n4), (⟨#[105, 99]⟩, w3, n3), (⟨#[105, 97]⟩, w1, n1)], [(⟨#[105, 97]⟩, w1, n1), (⟨#[105, 100]⟩, w4, n4), (⟨#[105, 98]⟩, w2, n2), (⟨#[105, 99]⟩, w3, n3)], [(⟨#[105, 100]⟩, w4, n4), (⟨#[105, 97]⟩, w1, n1), (⟨#[105, 98]⟩, w2, n2), (⟨#[105, 99]⟩, w3, n3)], [(⟨#[105, 100]⟩, w4, n4), (⟨#[105, 98]⟩, w2, n2), (⟨#[105, 97]⟩, w1, n1), (⟨#[105, 99]⟩, w3, n3)], [(⟨#[105, 100]⟩, w4, n4), (⟨#[105, 98]⟩, w2, n2), (⟨#[105, 99]⟩, w3, n3), (⟨#[105, 97]⟩, w1, n1)], [(⟨#[105, 97]⟩, w1, n1), (⟨#[105, 100]⟩, w4, n4), (⟨#[105, 99]⟩, w3, n3), (⟨#[105, 98]⟩, w2, n2)], [(⟨#[105, 100]⟩, w4, n4), (⟨#[105, 97]⟩, w1, n1), (⟨#[105, 99]⟩, w3, n3), (⟨#[105, 98]⟩, w2, n2)], [(⟨#[105, 100]⟩, w4, n4), (⟨#[105, 99]⟩, w3, n3), (⟨#[105, 97]⟩, w1, n1), (⟨#[105, 98]⟩, w2, n2)], [(⟨#[105, 100]⟩, w4, n4), (⟨#[105, 99]⟩, w3, n3), (⟨#[105, 98]⟩, w2, n2), (⟨#[105, 97]⟩, w1, n1)]] from rfl] at hm
  simp only [List.mem_cons, List.not_mem_nil, or_false] at hm
  rcases hm with rfl | rfl | rfl | rfl | rfl | rfl | rfl | rfl | rfl | rfl | rfl | rfl | rfl | rfl | rfl | rfl | rfl | rfl | rfl | rfl | rfl | rfl | rfl | rfl
  · obtain ⟨v, g, ⟨⟨a, hG, rfl⟩, hg⟩, hF⟩ := FnOK.ffix (p := 1) (SBd_ok _) mixed Tryz.func16 some16 (bd1111_0123 k fa w1 w2 w3 w4 n1 n2 n3 n4 fun v o => (∃ a, Good [(⟨#[105, 97]⟩, w1, n1), (⟨#[105, 98]⟩, w2, n2), (⟨#[105, 99]⟩, w3, n3), (⟨#[105, 100]⟩, w4, n4)] fa a ∧ v = okB a) ∧ o = some (.cells ⟨loadC [(⟨#[105, 97]⟩, w1, n1), (⟨#[105, 98]⟩, w2, n2), (⟨#[105, 99]⟩, w3, n3), (⟨#[105, 100]⟩, w4, n4)]⟩ 46 (0, 0))) (bdK_ok rfl hp hw hn h1 h2 hk0 hk1 hs fun a ha => ⟨⟨a, ha, rfl⟩, rfl⟩)
    exact ⟨a, hG, hF.mono fun u g2 ⟨e1, e2⟩ => ⟨e1, by rw [e2]; exact hg⟩⟩
  · obtain ⟨v, g, ⟨⟨a, hG, rfl⟩, hg⟩, hF⟩ := FnOK.ffix (p := 1) (SBd_ok _) mixed Tryz.func16 some16 (bd1111_1023 k fa w1 w2 w3 w4 n1 n2 n3 n4 fun v o => (∃ a, Good [(⟨#[105, 97]⟩, w1, n1), (⟨#[105, 98]⟩, w2, n2), (⟨#[105, 99]⟩, w3, n3), (⟨#[105, 100]⟩, w4, n4)] fa a ∧ v = okB a) ∧ o = some (.cells ⟨loadC [(⟨#[105, 97]⟩, w1, n1), (⟨#[105, 98]⟩, w2, n2), (⟨#[105, 99]⟩, w3, n3), (⟨#[105, 100]⟩, w4, n4)]⟩ 46 (0, 0))) (bdK_ok rfl hp hw hn h1 h2 hk0 hk1 hs fun a ha => ⟨⟨a, ha, rfl⟩, rfl⟩)
    exact ⟨a, hG, hF.mono fun u g2 ⟨e1, e2⟩ => ⟨e1, by rw [e2]; exact hg⟩⟩
  · obtain ⟨v, g, ⟨⟨a, hG, rfl⟩, hg⟩, hF⟩ := FnOK.ffix (p := 1) (SBd_ok _) mixed Tryz.func16 some16 (bd1111_1203 k fa w1 w2 w3 w4 n1 n2 n3 n4 fun v o => (∃ a, Good [(⟨#[105, 97]⟩, w1, n1), (⟨#[105, 98]⟩, w2, n2), (⟨#[105, 99]⟩, w3, n3), (⟨#[105, 100]⟩, w4, n4)] fa a ∧ v = okB a) ∧ o = some (.cells ⟨loadC [(⟨#[105, 97]⟩, w1, n1), (⟨#[105, 98]⟩, w2, n2), (⟨#[105, 99]⟩, w3, n3), (⟨#[105, 100]⟩, w4, n4)]⟩ 46 (0, 0))) (bdK_ok rfl hp hw hn h1 h2 hk0 hk1 hs fun a ha => ⟨⟨a, ha, rfl⟩, rfl⟩)
    exact ⟨a, hG, hF.mono fun u g2 ⟨e1, e2⟩ => ⟨e1, by rw [e2]; exact hg⟩⟩
  · obtain ⟨v, g, ⟨⟨a, hG, rfl⟩, hg⟩, hF⟩ := FnOK.ffix (p := 1) (SBd_ok _) mixed Tryz.func16 some16 (bd1111_1230 k fa w1 w2 w3 w4 n1 n2 n3 n4 fun v o => (∃ a, Good [(⟨#[105, 97]⟩, w1, n1), (⟨#[105, 98]⟩, w2, n2), (⟨#[105, 99]⟩, w3, n3), (⟨#[105, 100]⟩, w4, n4)] fa a ∧ v = okB a) ∧ o = some (.cells ⟨loadC [(⟨#[105, 97]⟩, w1, n1), (⟨#[105, 98]⟩, w2, n2), (⟨#[105, 99]⟩, w3, n3), (⟨#[105, 100]⟩, w4, n4)]⟩ 46 (0, 0))) (bdK_ok rfl hp hw hn h1 h2 hk0 hk1 hs fun a ha => ⟨⟨a, ha, rfl⟩, rfl⟩)
    exact ⟨a, hG, hF.mono fun u g2 ⟨e1, e2⟩ => ⟨e1, by rw [e2]; exact hg⟩⟩
  · obtain ⟨v, g, ⟨⟨a, hG, rfl⟩, hg⟩, hF⟩ := FnOK.ffix (p := 1) (SBd_ok _) mixed Tryz.func16 some16 (bd1111_0213 k fa w1 w2 w3 w4 n1 n2 n3 n4 fun v o => (∃ a, Good [(⟨#[105, 97]⟩, w1, n1), (⟨#[105, 98]⟩, w2, n2), (⟨#[105, 99]⟩, w3, n3), (⟨#[105, 100]⟩, w4, n4)] fa a ∧ v = okB a) ∧ o = some (.cells ⟨loadC [(⟨#[105, 97]⟩, w1, n1), (⟨#[105, 98]⟩, w2, n2), (⟨#[105, 99]⟩, w3, n3), (⟨#[105, 100]⟩, w4, n4)]⟩ 46 (0, 0))) (bdK_ok rfl hp hw hn h1 h2 hk0 hk1 hs fun a ha => ⟨⟨a, ha, rfl⟩, rfl⟩)
    exact ⟨a, hG, hF.mono fun u g2 ⟨e1, e2⟩ => ⟨e1, by rw [e2]; exact hg⟩⟩
  · obtain ⟨v, g, ⟨⟨a, hG, rfl⟩, hg⟩, hF⟩ := FnOK.ffix (p := 1) (SBd_ok _) mixed Tryz.func16 some16 (bd1111_2013 k fa w1 w2 w3 w4 n1 n2 n3 n4 fun v o => (∃ a, Good [(⟨#[105, 97]⟩, w1, n1), (⟨#[105, 98]⟩, w2, n2), (⟨#[105, 99]⟩, w3, n3), (⟨#[105, 100]⟩, w4, n4)] fa a ∧ v = okB a) ∧ o = some (.cells ⟨loadC [(⟨#[105, 97]⟩, w1, n1), (⟨#[105, 98]⟩, w2, n2), (⟨#[105, 99]⟩, w3, n3), (⟨#[105, 100]⟩, w4, n4)]⟩ 46 (0, 0))) (bdK_ok rfl hp hw hn h1 h2 hk0 hk1 hs fun a ha => ⟨⟨a, ha, rfl⟩, rfl⟩)
    exact ⟨a, hG, hF.mono fun u g2 ⟨e1, e2⟩ => ⟨e1, by rw [e2]; exact hg⟩⟩
  · obtain ⟨v, g, ⟨⟨a, hG, rfl⟩, hg⟩, hF⟩ := FnOK.ffix (p := 1) (SBd_ok _) mixed Tryz.func16 some16 (bd1111_2103 k fa w1 w2 w3 w4 n1 n2 n3 n4 fun v o => (∃ a, Good [(⟨#[105, 97]⟩, w1, n1), (⟨#[105, 98]⟩, w2, n2), (⟨#[105, 99]⟩, w3, n3), (⟨#[105, 100]⟩, w4, n4)] fa a ∧ v = okB a) ∧ o = some (.cells ⟨loadC [(⟨#[105, 97]⟩, w1, n1), (⟨#[105, 98]⟩, w2, n2), (⟨#[105, 99]⟩, w3, n3), (⟨#[105, 100]⟩, w4, n4)]⟩ 46 (0, 0))) (bdK_ok rfl hp hw hn h1 h2 hk0 hk1 hs fun a ha => ⟨⟨a, ha, rfl⟩, rfl⟩)
    exact ⟨a, hG, hF.mono fun u g2 ⟨e1, e2⟩ => ⟨e1, by rw [e2]; exact hg⟩⟩
  · obtain ⟨v, g, ⟨⟨a, hG, rfl⟩, hg⟩, hF⟩ := FnOK.ffix (p := 1) (SBd_ok _) mixed Tryz.func16 some16 (bd1111_2130 k fa w1 w2 w3 w4 n1 n2 n3 n4 fun v o => (∃ a, Good [(⟨#[105, 97]⟩, w1, n1), (⟨#[105, 98]⟩, w2, n2), (⟨#[105, 99]⟩, w3, n3), (⟨#[105, 100]⟩, w4, n4)] fa a ∧ v = okB a) ∧ o = some (.cells ⟨loadC [(⟨#[105, 97]⟩, w1, n1), (⟨#[105, 98]⟩, w2, n2), (⟨#[105, 99]⟩, w3, n3), (⟨#[105, 100]⟩, w4, n4)]⟩ 46 (0, 0))) (bdK_ok rfl hp hw hn h1 h2 hk0 hk1 hs fun a ha => ⟨⟨a, ha, rfl⟩, rfl⟩)
    exact ⟨a, hG, hF.mono fun u g2 ⟨e1, e2⟩ => ⟨e1, by rw [e2]; exact hg⟩⟩
  · obtain ⟨v, g, ⟨⟨a, hG, rfl⟩, hg⟩, hF⟩ := FnOK.ffix (p := 1) (SBd_ok _) mixed Tryz.func16 some16 (bd1111_0231 k fa w1 w2 w3 w4 n1 n2 n3 n4 fun v o => (∃ a, Good [(⟨#[105, 97]⟩, w1, n1), (⟨#[105, 98]⟩, w2, n2), (⟨#[105, 99]⟩, w3, n3), (⟨#[105, 100]⟩, w4, n4)] fa a ∧ v = okB a) ∧ o = some (.cells ⟨loadC [(⟨#[105, 97]⟩, w1, n1), (⟨#[105, 98]⟩, w2, n2), (⟨#[105, 99]⟩, w3, n3), (⟨#[105, 100]⟩, w4, n4)]⟩ 46 (0, 0))) (bdK_ok rfl hp hw hn h1 h2 hk0 hk1 hs fun a ha => ⟨⟨a, ha, rfl⟩, rfl⟩)
    exact ⟨a, hG, hF.mono fun u g2 ⟨e1, e2⟩ => ⟨e1, by rw [e2]; exact hg⟩⟩
  · obtain ⟨v, g, ⟨⟨a, hG, rfl⟩, hg⟩, hF⟩ := FnOK.ffix (p := 1) (SBd_ok _) mixed Tryz.func16 some16 (bd1111_2031 k fa w1 w2 w3 w4 n1 n2 n3 n4 fun v o => (∃ a, Good [(⟨#[105, 97]⟩, w1, n1), (⟨#[105, 98]⟩, w2, n2), (⟨#[105, 99]⟩, w3, n3), (⟨#[105, 100]⟩, w4, n4)] fa a ∧ v = okB a) ∧ o = some (.cells ⟨loadC [(⟨#[105, 97]⟩, w1, n1), (⟨#[105, 98]⟩, w2, n2), (⟨#[105, 99]⟩, w3, n3), (⟨#[105, 100]⟩, w4, n4)]⟩ 46 (0, 0))) (bdK_ok rfl hp hw hn h1 h2 hk0 hk1 hs fun a ha => ⟨⟨a, ha, rfl⟩, rfl⟩)
    exact ⟨a, hG, hF.mono fun u g2 ⟨e1, e2⟩ => ⟨e1, by rw [e2]; exact hg⟩⟩
  · obtain ⟨v, g, ⟨⟨a, hG, rfl⟩, hg⟩, hF⟩ := FnOK.ffix (p := 1) (SBd_ok _) mixed Tryz.func16 some16 (bd1111_2301 k fa w1 w2 w3 w4 n1 n2 n3 n4 fun v o => (∃ a, Good [(⟨#[105, 97]⟩, w1, n1), (⟨#[105, 98]⟩, w2, n2), (⟨#[105, 99]⟩, w3, n3), (⟨#[105, 100]⟩, w4, n4)] fa a ∧ v = okB a) ∧ o = some (.cells ⟨loadC [(⟨#[105, 97]⟩, w1, n1), (⟨#[105, 98]⟩, w2, n2), (⟨#[105, 99]⟩, w3, n3), (⟨#[105, 100]⟩, w4, n4)]⟩ 46 (0, 0))) (bdK_ok rfl hp hw hn h1 h2 hk0 hk1 hs fun a ha => ⟨⟨a, ha, rfl⟩, rfl⟩)
    exact ⟨a, hG, hF.mono fun u g2 ⟨e1, e2⟩ => ⟨e1, by rw [e2]; exact hg⟩⟩
  · obtain ⟨v, g, ⟨⟨a, hG, rfl⟩, hg⟩, hF⟩ := FnOK.ffix (p := 1) (SBd_ok _) mixed Tryz.func16 some16 (bd1111_2310 k fa w1 w2 w3 w4 n1 n2 n3 n4 fun v o => (∃ a, Good [(⟨#[105, 97]⟩, w1, n1), (⟨#[105, 98]⟩, w2, n2), (⟨#[105, 99]⟩, w3, n3), (⟨#[105, 100]⟩, w4, n4)] fa a ∧ v = okB a) ∧ o = some (.cells ⟨loadC [(⟨#[105, 97]⟩, w1, n1), (⟨#[105, 98]⟩, w2, n2), (⟨#[105, 99]⟩, w3, n3), (⟨#[105, 100]⟩, w4, n4)]⟩ 46 (0, 0))) (bdK_ok rfl hp hw hn h1 h2 hk0 hk1 hs fun a ha => ⟨⟨a, ha, rfl⟩, rfl⟩)
    exact ⟨a, hG, hF.mono fun u g2 ⟨e1, e2⟩ => ⟨e1, by rw [e2]; exact hg⟩⟩
  · obtain ⟨v, g, ⟨⟨a, hG, rfl⟩, hg⟩, hF⟩ := FnOK.ffix (p := 1) (SBd_ok _) mixed Tryz.func16 some16 (bd1111_0132 k fa w1 w2 w3 w4 n1 n2 n3 n4 fun v o => (∃ a, Good [(⟨#[105, 97]⟩, w1, n1), (⟨#[105, 98]⟩, w2, n2), (⟨#[105, 99]⟩, w3, n3), (⟨#[105, 100]⟩, w4, n4)] fa a ∧ v = okB a) ∧ o = some (.cells ⟨loadC [(⟨#[105, 97]⟩, w1, n1), (⟨#[105, 98]⟩, w2, n2), (⟨#[105, 99]⟩, w3, n3), (⟨#[105, 100]⟩, w4, n4)]⟩ 46 (0, 0))) (bdK_ok rfl hp hw hn h1 h2 hk0 hk1 hs fun a ha => ⟨⟨a, ha, rfl⟩, rfl⟩)
    exact ⟨a, hG, hF.mono fun u g2 ⟨e1, e2⟩ => ⟨e1, by rw [e2]; exact hg⟩⟩
  · obtain ⟨v, g, ⟨⟨a, hG, rfl⟩, hg⟩, hF⟩ := FnOK.ffix (p := 1) (SBd_ok _) mixed Tryz.func16 some16 (bd1111_1032 k fa w1 w2 w3 w4 n1 n2 n3 n4 fun v o => (∃ a, Good [(⟨#[105, 97]⟩, w1, n1), (⟨#[105, 98]⟩, w2, n2), (⟨#[105, 99]⟩, w3, n3), (⟨#[105, 100]⟩, w4, n4)] fa a ∧ v = okB a) ∧ o = some (.cells ⟨loadC [(⟨#[105, 97]⟩, w1, n1), (⟨#[105, 98]⟩, w2, n2), (⟨#[105, 99]⟩, w3, n3), (⟨#[105, 100]⟩, w4, n4)]⟩ 46 (0, 0))) (bdK_ok rfl hp hw hn h1 h2 hk0 hk1 hs fun a ha => ⟨⟨a, ha, rfl⟩, rfl⟩)
    exact ⟨a, hG, hF.mono fun u g2 ⟨e1, e2⟩ => ⟨e1, by rw [e2]; exact hg⟩⟩
  · obtain ⟨v, g, ⟨⟨a, hG, rfl⟩, hg⟩, hF⟩ := FnOK.ffix (p := 1) (SBd_ok _) mixed Tryz.func16 some16 (bd1111_1302 k fa w1 w2 w3 w4 n1 n2 n3 n4 fun v o => (∃ a, Good [(⟨#[105, 97]⟩, w1, n1), (⟨#[105, 98]⟩, w2, n2), (⟨#[105, 99]⟩, w3, n3), (⟨#[105, 100]⟩, w4, n4)] fa a ∧ v = okB a) ∧ o = some (.cells ⟨loadC [(⟨#[105, 97]⟩, w1, n1), (⟨#[105, 98]⟩, w2, n2), (⟨#[105, 99]⟩, w3, n3), (⟨#[105, 100]⟩, w4, n4)]⟩ 46 (0, 0))) (bdK_ok rfl hp hw hn h1 h2 hk0 hk1 hs fun a ha => ⟨⟨a, ha, rfl⟩, rfl⟩)
    exact ⟨a, hG, hF.mono fun u g2 ⟨e1, e2⟩ => ⟨e1, by rw [e2]; exact hg⟩⟩
  · obtain ⟨v, g, ⟨⟨a, hG, rfl⟩, hg⟩, hF⟩ := FnOK.ffix (p := 1) (SBd_ok _) mixed Tryz.func16 some16 (bd1111_1320 k fa w1 w2 w3 w4 n1 n2 n3 n4 fun v o => (∃ a, Good [(⟨#[105, 97]⟩, w1, n1), (⟨#[105, 98]⟩, w2, n2), (⟨#[105, 99]⟩, w3, n3), (⟨#[105, 100]⟩, w4, n4)] fa a ∧ v = okB a) ∧ o = some (.cells ⟨loadC [(⟨#[105, 97]⟩, w1, n1), (⟨#[105, 98]⟩, w2, n2), (⟨#[105, 99]⟩, w3, n3), (⟨#[105, 100]⟩, w4, n4)]⟩ 46 (0, 0))) (bdK_ok rfl hp hw hn h1 h2 hk0 hk1 hs fun a ha => ⟨⟨a, ha, rfl⟩, rfl⟩)
    exact ⟨a, hG, hF.mono fun u g2 ⟨e1, e2⟩ => ⟨e1, by rw [e2]; exact hg⟩⟩
  · obtain ⟨v, g, ⟨⟨a, hG, rfl⟩, hg⟩, hF⟩ := FnOK.ffix (p := 1) (SBd_ok _) mixed Tryz.func16 some16 (bd1111_0312 k fa w1 w2 w3 w4 n1 n2 n3 n4 fun v o => (∃ a, Good [(⟨#[105, 97]⟩, w1, n1), (⟨#[105, 98]⟩, w2, n2), (⟨#[105, 99]⟩, w3, n3), (⟨#[105, 100]⟩, w4, n4)] fa a ∧ v = okB a) ∧ o = some (.cells ⟨loadC [(⟨#[105, 97]⟩, w1, n1), (⟨#[105, 98]⟩, w2, n2), (⟨#[105, 99]⟩, w3, n3), (⟨#[105, 100]⟩, w4, n4)]⟩ 46 (0, 0))) (bdK_ok rfl hp hw hn h1 h2 hk0 hk1 hs fun a ha => ⟨⟨a, ha, rfl⟩, rfl⟩)
    exact ⟨a, hG, hF.mono fun u g2 ⟨e1, e2⟩ => ⟨e1, by rw [e2]; exact hg⟩⟩
  · obtain ⟨v, g, ⟨⟨a, hG, rfl⟩, hg⟩, hF⟩ := FnOK.ffix (p := 1) (SBd_ok _) mixed Tryz.func16 some16 (bd1111_3012 k fa w1 w2 w3 w4 n1 n2 n3 n4 fun v o => (∃ a, Good [(⟨#[105, 97]⟩, w1, n1), (⟨#[105, 98]⟩, w2, n2), (⟨#[105, 99]⟩, w3, n3), (⟨#[105, 100]⟩, w4, n4)] fa a ∧ v = okB a) ∧ o = some (.cells ⟨loadC [(⟨#[105, 97]⟩, w1, n1), (⟨#[105, 98]⟩, w2, n2), (⟨#[105, 99]⟩, w3, n3), (⟨#[105, 100]⟩, w4, n4)]⟩ 46 (0, 0))) (bdK_ok rfl hp hw hn h1 h2 hk0 hk1 hs fun a ha => ⟨⟨a, ha, rfl⟩, rfl⟩)
    exact ⟨a, hG, hF.mono fun u g2 ⟨e1, e2⟩ => ⟨e1, by rw [e2]; exact hg⟩⟩
  · obtain ⟨v, g, ⟨⟨a, hG, rfl⟩, hg⟩, hF⟩ := FnOK.ffix (p := 1) (SBd_ok _) mixed Tryz.func16 some16 (bd1111_3102 k fa w1 w2 w3 w4 n1 n2 n3 n4 fun v o => (∃ a, Good [(⟨#[105, 97]⟩, w1, n1), (⟨#[105, 98]⟩, w2, n2), (⟨#[105, 99]⟩, w3, n3), (⟨#[105, 100]⟩, w4, n4)] fa a ∧ v = okB a) ∧ o = some (.cells ⟨loadC [(⟨#[105, 97]⟩, w1, n1), (⟨#[105, 98]⟩, w2, n2), (⟨#[105, 99]⟩, w3, n3), (⟨#[105, 100]⟩, w4, n4)]⟩ 46 (0, 0))) (bdK_ok rfl hp hw hn h1 h2 hk0 hk1 hs fun a ha => ⟨⟨a, ha, rfl⟩, rfl⟩)
    exact ⟨a, hG, hF.mono fun u g2 ⟨e1, e2⟩ => ⟨e1, by rw [e2]; exact hg⟩⟩
  · obtain ⟨v, g, ⟨⟨a, hG, rfl⟩, hg⟩, hF⟩ := FnOK.ffix (p := 1) (SBd_ok _) mixed Tryz.func16 some16 (bd1111_3120 k fa w1 w2 w3 w4 n1 n2 n3 n4 fun v o => (∃ a, Good [(⟨#[105, 97]⟩, w1, n1), (⟨#[105, 98]⟩, w2, n2), (⟨#[105, 99]⟩, w3, n3), (⟨#[105, 100]⟩, w4, n4)] fa a ∧ v = okB a) ∧ o = some (.cells ⟨loadC [(⟨#[105, 97]⟩, w1, n1), (⟨#[105, 98]⟩, w2, n2), (⟨#[105, 99]⟩, w3, n3), (⟨#[105, 100]⟩, w4, n4)]⟩ 46 (0, 0))) (bdK_ok rfl hp hw hn h1 h2 hk0 hk1 hs fun a ha => ⟨⟨a, ha, rfl⟩, rfl⟩)
    exact ⟨a, hG, hF.mono fun u g2 ⟨e1, e2⟩ => ⟨e1, by rw [e2]; exact hg⟩⟩
  · obtain ⟨v, g, ⟨⟨a, hG, rfl⟩, hg⟩, hF⟩ := FnOK.ffix (p := 1) (SBd_ok _) mixed Tryz.func16 some16 (bd1111_0321 k fa w1 w2 w3 w4 n1 n2 n3 n4 fun v o => (∃ a, Good [(⟨#[105, 97]⟩, w1, n1), (⟨#[105, 98]⟩, w2, n2), (⟨#[105, 99]⟩, w3, n3), (⟨#[105, 100]⟩, w4, n4)] fa a ∧ v = okB a) ∧ o = some (.cells ⟨loadC [(⟨#[105, 97]⟩, w1, n1), (⟨#[105, 98]⟩, w2, n2), (⟨#[105, 99]⟩, w3, n3), (⟨#[105, 100]⟩, w4, n4)]⟩ 46 (0, 0))) (bdK_ok rfl hp hw hn h1 h2 hk0 hk1 hs fun a ha => ⟨⟨a, ha, rfl⟩, rfl⟩)
    exact ⟨a, hG, hF.mono fun u g2 ⟨e1, e2⟩ => ⟨e1, by rw [e2]; exact hg⟩⟩
  · obtain ⟨v, g, ⟨⟨a, hG, rfl⟩, hg⟩, hF⟩ := FnOK.ffix (p := 1) (SBd_ok _) mixed Tryz.func16 some16 (bd1111_3021 k fa w1 w2 w3 w4 n1 n2 n3 n4 fun v o => (∃ a, Good [(⟨#[105, 97]⟩, w1, n1), (⟨#[105, 98]⟩, w2, n2), (⟨#[105, 99]⟩, w3, n3), (⟨#[105, 100]⟩, w4, n4)] fa a ∧ v = okB a) ∧ o = some (.cells ⟨loadC [(⟨#[105, 97]⟩, w1, n1), (⟨#[105, 98]⟩, w2, n2), (⟨#[105, 99]⟩, w3, n3), (⟨#[105, 100]⟩, w4, n4)]⟩ 46 (0, 0))) (bdK_ok rfl hp hw hn h1 h2 hk0 hk1 hs fun a ha => ⟨⟨a, ha, rfl⟩, rfl⟩)
    exact ⟨a, hG, hF.mono fun u g2 ⟨e1, e2⟩ => ⟨e1, by rw [e2]; exact hg⟩⟩
  · obtain ⟨v, g, ⟨⟨a, hG, rfl⟩, hg⟩, hF⟩ := FnOK.ffix (p := 1) (SBd_ok _) mixed Tryz.func16 some16 (bd1111_3201 k fa w1 w2 w3 w4 n1 n2 n3 n4 fun v o => (∃ a, Good [(⟨#[105, 97]⟩, w1, n1), (⟨#[105, 98]⟩, w2, n2), (⟨#[105, 99]⟩, w3, n3), (⟨#[105, 100]⟩, w4, n4)] fa a ∧ v = okB a) ∧ o = some (.cells ⟨loadC [(⟨#[105, 97]⟩, w1, n1), (⟨#[105, 98]⟩, w2, n2), (⟨#[105, 99]⟩, w3, n3), (⟨#[105, 100]⟩, w4, n4)]⟩ 46 (0, 0))) (bdK_ok rfl hp hw hn h1 h2 hk0 hk1 hs fun a ha => ⟨⟨a, ha, rfl⟩, rfl⟩)
    exact ⟨a, hG, hF.mono fun u g2 ⟨e1, e2⟩ => ⟨e1, by rw [e2]; exact hg⟩⟩
  · obtain ⟨v, g, ⟨⟨a, hG, rfl⟩, hg⟩, hF⟩ := FnOK.ffix (p := 1) (SBd_ok _) mixed Tryz.func16 some16 (bd1111_3210 k fa w1 w2 w3 w4 n1 n2 n3 n4 fun v o => (∃ a, Good [(⟨#[105, 97]⟩, w1, n1), (⟨#[105, 98]⟩, w2, n2), (⟨#[105, 99]⟩, w3, n3), (⟨#[105, 100]⟩, w4, n4)] fa a ∧ v = okB a) ∧ o = some (.cells ⟨loadC [(⟨#[105, 97]⟩, w1, n1), (⟨#[105, 98]⟩, w2, n2), (⟨#[105, 99]⟩, w3, n3), (⟨#[105, 100]⟩, w4, n4)]⟩ 46 (0, 0))) (bdK_ok rfl hp hw hn h1 h2 hk0 hk1 hs fun a ha => ⟨⟨a, ha, rfl⟩, rfl⟩)
    exact ⟨a, hG, hF.mono fun u g2 ⟨e1, e2⟩ => ⟨e1, by rw [e2]; exact hg⟩⟩
theorem bnd1110 (k : ByteArray) (fa w1 w2 w3 n1 n2 n3 : Int) (hw : ∀ p ∈ ([(⟨#[105, 97]⟩, w1, n1), (⟨#[105, 98]⟩, w2, n2), (⟨#[105, 99]⟩, w3, n3)] : List KWN), 1 ≤ p.2.1 ∧ p.2.1 ≤ 100) (hn : ∀ p ∈ ([(⟨#[105, 97]⟩, w1, n1), (⟨#[105, 98]⟩, w2, n2), (⟨#[105, 99]⟩, w3, n3)] : List KWN), 0 ≤ p.2.2 ∧ p.2.2 ≤ 1000000)
    (h1 : 1000 ≤ fa) (h2 : fa ≤ 1000000) (hk0 : (k.toList == ByteArray.toList ⟨#[]⟩) = false) (hk1 : k.size ≤ 40) : ∃ a, BndP [(⟨#[105, 97]⟩, w1, n1), (⟨#[105, 98]⟩, w2, n2), (⟨#[105, 99]⟩, w3, n3)] k fa a := by
  obtain ⟨ys, hp, hs⟩ := perm_map_inv (sortO_perm k (instKV [(⟨#[105, 97]⟩, w1, n1), (⟨#[105, 98]⟩, w2, n2), (⟨#[105, 99]⟩, w3, n3)])) ([(⟨#[105, 97]⟩, w1, n1), (⟨#[105, 98]⟩, w2, n2), (⟨#[105, 99]⟩, w3, n3)] : List KWN) rfl
  have hm := perms_mem _ _ hp
  rw [show perms ([(⟨#[105, 97]⟩, w1, n1), (⟨#[105, 98]⟩, w2, n2), (⟨#[105, 99]⟩, w3, n3)] : List KWN) = [[(⟨#[105, 97]⟩, w1, n1), (⟨#[105, 98]⟩, w2, n2), (⟨#[105, 99]⟩, w3, n3)], [(⟨#[105, 98]⟩, w2, n2), (⟨#[105, 97]⟩, w1, n1), (⟨#[105, 99]⟩, w3, n3)], [(⟨#[105, 98]⟩, w2, n2), (⟨#[105, 99]⟩, w3, n3), (⟨#[105, 97]⟩, w1, n1)], [(⟨#[105, 97]⟩, w1, n1), (⟨#[105, 99]⟩, w3, n3), (⟨#[105, 98]⟩, w2, n2)], [(⟨#[105, 99]⟩, w3, n3), (⟨#[105, 97]⟩, w1, n1), (⟨#[105, 98]⟩, w2, n2)], [(⟨#[105, 99]⟩, w3, n3), (⟨#[105, 98]⟩, w2, n2), (⟨#[105, 97]⟩, w1, n1)]] from rfl] at hm
  simp only [List.mem_cons, List.not_mem_nil, or_false] at hm
  rcases hm with rfl | rfl | rfl | rfl | rfl | rfl
  · obtain ⟨v, g, ⟨⟨a, hG, rfl⟩, hg⟩, hF⟩ := FnOK.ffix (p := 1) (SBd_ok _) mixed Tryz.func16 some16 (bd1110_012 k fa w1 w2 w3 n1 n2 n3 fun v o => (∃ a, Good [(⟨#[105, 97]⟩, w1, n1), (⟨#[105, 98]⟩, w2, n2), (⟨#[105, 99]⟩, w3, n3)] fa a ∧ v = okB a) ∧ o = some (.cells ⟨loadC [(⟨#[105, 97]⟩, w1, n1), (⟨#[105, 98]⟩, w2, n2), (⟨#[105, 99]⟩, w3, n3)]⟩ 46 (0, 0))) (bdK_ok rfl hp hw hn h1 h2 hk0 hk1 hs fun a ha => ⟨⟨a, ha, rfl⟩, rfl⟩)
    exact ⟨a, hG, hF.mono fun u g2 ⟨e1, e2⟩ => ⟨e1, by rw [e2]; exact hg⟩⟩
  · obtain ⟨v, g, ⟨⟨a, hG, rfl⟩, hg⟩, hF⟩ := FnOK.ffix (p := 1) (SBd_ok _) mixed Tryz.func16 some16 (bd1110_102 k fa w1 w2 w3 n1 n2 n3 fun v o => (∃ a, Good [(⟨#[105, 97]⟩, w1, n1), (⟨#[105, 98]⟩, w2, n2), (⟨#[105, 99]⟩, w3, n3)] fa a ∧ v = okB a) ∧ o = some (.cells ⟨loadC [(⟨#[105, 97]⟩, w1, n1), (⟨#[105, 98]⟩, w2, n2), (⟨#[105, 99]⟩, w3, n3)]⟩ 46 (0, 0))) (bdK_ok rfl hp hw hn h1 h2 hk0 hk1 hs fun a ha => ⟨⟨a, ha, rfl⟩, rfl⟩)
    exact ⟨a, hG, hF.mono fun u g2 ⟨e1, e2⟩ => ⟨e1, by rw [e2]; exact hg⟩⟩
  · obtain ⟨v, g, ⟨⟨a, hG, rfl⟩, hg⟩, hF⟩ := FnOK.ffix (p := 1) (SBd_ok _) mixed Tryz.func16 some16 (bd1110_120 k fa w1 w2 w3 n1 n2 n3 fun v o => (∃ a, Good [(⟨#[105, 97]⟩, w1, n1), (⟨#[105, 98]⟩, w2, n2), (⟨#[105, 99]⟩, w3, n3)] fa a ∧ v = okB a) ∧ o = some (.cells ⟨loadC [(⟨#[105, 97]⟩, w1, n1), (⟨#[105, 98]⟩, w2, n2), (⟨#[105, 99]⟩, w3, n3)]⟩ 46 (0, 0))) (bdK_ok rfl hp hw hn h1 h2 hk0 hk1 hs fun a ha => ⟨⟨a, ha, rfl⟩, rfl⟩)
    exact ⟨a, hG, hF.mono fun u g2 ⟨e1, e2⟩ => ⟨e1, by rw [e2]; exact hg⟩⟩
  · obtain ⟨v, g, ⟨⟨a, hG, rfl⟩, hg⟩, hF⟩ := FnOK.ffix (p := 1) (SBd_ok _) mixed Tryz.func16 some16 (bd1110_021 k fa w1 w2 w3 n1 n2 n3 fun v o => (∃ a, Good [(⟨#[105, 97]⟩, w1, n1), (⟨#[105, 98]⟩, w2, n2), (⟨#[105, 99]⟩, w3, n3)] fa a ∧ v = okB a) ∧ o = some (.cells ⟨loadC [(⟨#[105, 97]⟩, w1, n1), (⟨#[105, 98]⟩, w2, n2), (⟨#[105, 99]⟩, w3, n3)]⟩ 46 (0, 0))) (bdK_ok rfl hp hw hn h1 h2 hk0 hk1 hs fun a ha => ⟨⟨a, ha, rfl⟩, rfl⟩)
    exact ⟨a, hG, hF.mono fun u g2 ⟨e1, e2⟩ => ⟨e1, by rw [e2]; exact hg⟩⟩
  · obtain ⟨v, g, ⟨⟨a, hG, rfl⟩, hg⟩, hF⟩ := FnOK.ffix (p := 1) (SBd_ok _) mixed Tryz.func16 some16 (bd1110_201 k fa w1 w2 w3 n1 n2 n3 fun v o => (∃ a, Good [(⟨#[105, 97]⟩, w1, n1), (⟨#[105, 98]⟩, w2, n2), (⟨#[105, 99]⟩, w3, n3)] fa a ∧ v = okB a) ∧ o = some (.cells ⟨loadC [(⟨#[105, 97]⟩, w1, n1), (⟨#[105, 98]⟩, w2, n2), (⟨#[105, 99]⟩, w3, n3)]⟩ 46 (0, 0))) (bdK_ok rfl hp hw hn h1 h2 hk0 hk1 hs fun a ha => ⟨⟨a, ha, rfl⟩, rfl⟩)
    exact ⟨a, hG, hF.mono fun u g2 ⟨e1, e2⟩ => ⟨e1, by rw [e2]; exact hg⟩⟩
  · obtain ⟨v, g, ⟨⟨a, hG, rfl⟩, hg⟩, hF⟩ := FnOK.ffix (p := 1) (SBd_ok _) mixed Tryz.func16 some16 (bd1110_210 k fa w1 w2 w3 n1 n2 n3 fun v o => (∃ a, Good [(⟨#[105, 97]⟩, w1, n1), (⟨#[105, 98]⟩, w2, n2), (⟨#[105, 99]⟩, w3, n3)] fa a ∧ v = okB a) ∧ o = some (.cells ⟨loadC [(⟨#[105, 97]⟩, w1, n1), (⟨#[105, 98]⟩, w2, n2), (⟨#[105, 99]⟩, w3, n3)]⟩ 46 (0, 0))) (bdK_ok rfl hp hw hn h1 h2 hk0 hk1 hs fun a ha => ⟨⟨a, ha, rfl⟩, rfl⟩)
    exact ⟨a, hG, hF.mono fun u g2 ⟨e1, e2⟩ => ⟨e1, by rw [e2]; exact hg⟩⟩
theorem bnd1101 (k : ByteArray) (fa w1 w2 w3 n1 n2 n3 : Int) (hw : ∀ p ∈ ([(⟨#[105, 97]⟩, w1, n1), (⟨#[105, 98]⟩, w2, n2), (⟨#[105, 100]⟩, w3, n3)] : List KWN), 1 ≤ p.2.1 ∧ p.2.1 ≤ 100) (hn : ∀ p ∈ ([(⟨#[105, 97]⟩, w1, n1), (⟨#[105, 98]⟩, w2, n2), (⟨#[105, 100]⟩, w3, n3)] : List KWN), 0 ≤ p.2.2 ∧ p.2.2 ≤ 1000000)
    (h1 : 1000 ≤ fa) (h2 : fa ≤ 1000000) (hk0 : (k.toList == ByteArray.toList ⟨#[]⟩) = false) (hk1 : k.size ≤ 40) : ∃ a, BndP [(⟨#[105, 97]⟩, w1, n1), (⟨#[105, 98]⟩, w2, n2), (⟨#[105, 100]⟩, w3, n3)] k fa a := by
  obtain ⟨ys, hp, hs⟩ := perm_map_inv (sortO_perm k (instKV [(⟨#[105, 97]⟩, w1, n1), (⟨#[105, 98]⟩, w2, n2), (⟨#[105, 100]⟩, w3, n3)])) ([(⟨#[105, 97]⟩, w1, n1), (⟨#[105, 98]⟩, w2, n2), (⟨#[105, 100]⟩, w3, n3)] : List KWN) rfl
  have hm := perms_mem _ _ hp
  rw [show perms ([(⟨#[105, 97]⟩, w1, n1), (⟨#[105, 98]⟩, w2, n2), (⟨#[105, 100]⟩, w3, n3)] : List KWN) = [[(⟨#[105, 97]⟩, w1, n1), (⟨#[105, 98]⟩, w2, n2), (⟨#[105, 100]⟩, w3, n3)], [(⟨#[105, 98]⟩, w2, n2), (⟨#[105, 97]⟩, w1, n1), (⟨#[105, 100]⟩, w3, n3)], [(⟨#[105, 98]⟩, w2, n2), (⟨#[105, 100]⟩, w3, n3), (⟨#[105, 97]⟩, w1, n1)], [(⟨#[105, 97]⟩, w1, n1), (⟨#[105, 100]⟩, w3, n3), (⟨#[105, 98]⟩, w2, n2)], [(⟨#[105, 100]⟩, w3, n3), (⟨#[105, 97]⟩, w1, n1), (⟨#[105, 98]⟩, w2, n2)], [(⟨#[105, 100]⟩, w3, n3), (⟨#[105, 98]⟩, w2, n2), (⟨#[105, 97]⟩, w1, n1)]] from rfl] at hm
  simp only [List.mem_cons, List.not_mem_nil, or_false] at hm
  rcases hm with rfl | rfl | rfl | rfl | rfl | rfl
  · obtain ⟨v, g, ⟨⟨a, hG, rfl⟩, hg⟩, hF⟩ := FnOK.ffix (p := 1) (SBd_ok _) mixed Tryz.func16 some16 (bd1101_012 k fa w1 w2 w3 n1 n2 n3 fun v o => (∃ a, Good [(⟨#[105, 97]⟩, w1, n1), (⟨#[105, 98]⟩, w2, n2), (⟨#[105, 100]⟩, w3, n3)] fa a ∧ v = okB a) ∧ o = some (.cells ⟨loadC [(⟨#[105, 97]⟩, w1, n1), (⟨#[105, 98]⟩, w2, n2), (⟨#[105, 100]⟩, w3, n3)]⟩ 46 (0, 0))) (bdK_ok rfl hp hw hn h1 h2 hk0 hk1 hs fun a ha => ⟨⟨a, ha, rfl⟩, rfl⟩)
    exact ⟨a, hG, hF.mono fun u g2 ⟨e1, e2⟩ => ⟨e1, by rw [e2]; exact hg⟩⟩
  · obtain ⟨v, g, ⟨⟨a, hG, rfl⟩, hg⟩, hF⟩ := FnOK.ffix (p := 1) (SBd_ok _) mixed Tryz.func16 some16 (bd1101_102 k fa w1 w2 w3 n1 n2 n3 fun v o => (∃ a, Good [(⟨#[105, 97]⟩, w1, n1), (⟨#[105, 98]⟩, w2, n2), (⟨#[105, 100]⟩, w3, n3)] fa a ∧ v = okB a) ∧ o = some (.cells ⟨loadC [(⟨#[105, 97]⟩, w1, n1), (⟨#[105, 98]⟩, w2, n2), (⟨#[105, 100]⟩, w3, n3)]⟩ 46 (0, 0))) (bdK_ok rfl hp hw hn h1 h2 hk0 hk1 hs fun a ha => ⟨⟨a, ha, rfl⟩, rfl⟩)
    exact ⟨a, hG, hF.mono fun u g2 ⟨e1, e2⟩ => ⟨e1, by rw [e2]; exact hg⟩⟩
  · obtain ⟨v, g, ⟨⟨a, hG, rfl⟩, hg⟩, hF⟩ := FnOK.ffix (p := 1) (SBd_ok _) mixed Tryz.func16 some16 (bd1101_120 k fa w1 w2 w3 n1 n2 n3 fun v o => (∃ a, Good [(⟨#[105, 97]⟩, w1, n1), (⟨#[105, 98]⟩, w2, n2), (⟨#[105, 100]⟩, w3, n3)] fa a ∧ v = okB a) ∧ o = some (.cells ⟨loadC [(⟨#[105, 97]⟩, w1, n1), (⟨#[105, 98]⟩, w2, n2), (⟨#[105, 100]⟩, w3, n3)]⟩ 46 (0, 0))) (bdK_ok rfl hp hw hn h1 h2 hk0 hk1 hs fun a ha => ⟨⟨a, ha, rfl⟩, rfl⟩)
    exact ⟨a, hG, hF.mono fun u g2 ⟨e1, e2⟩ => ⟨e1, by rw [e2]; exact hg⟩⟩
  · obtain ⟨v, g, ⟨⟨a, hG, rfl⟩, hg⟩, hF⟩ := FnOK.ffix (p := 1) (SBd_ok _) mixed Tryz.func16 some16 (bd1101_021 k fa w1 w2 w3 n1 n2 n3 fun v o => (∃ a, Good [(⟨#[105, 97]⟩, w1, n1), (⟨#[105, 98]⟩, w2, n2), (⟨#[105, 100]⟩, w3, n3)] fa a ∧ v = okB a) ∧ o = some (.cells ⟨loadC [(⟨#[105, 97]⟩, w1, n1), (⟨#[105, 98]⟩, w2, n2), (⟨#[105, 100]⟩, w3, n3)]⟩ 46 (0, 0))) (bdK_ok rfl hp hw hn h1 h2 hk0 hk1 hs fun a ha => ⟨⟨a, ha, rfl⟩, rfl⟩)
    exact ⟨a, hG, hF.mono fun u g2 ⟨e1, e2⟩ => ⟨e1, by rw [e2]; exact hg⟩⟩
  · obtain ⟨v, g, ⟨⟨a, hG, rfl⟩, hg⟩, hF⟩ := FnOK.ffix (p := 1) (SBd_ok _) mixed Tryz.func16 some16 (bd1101_201 k fa w1 w2 w3 n1 n2 n3 fun v o => (∃ a, Good [(⟨#[105, 97]⟩, w1, n1), (⟨#[105, 98]⟩, w2, n2), (⟨#[105, 100]⟩, w3, n3)] fa a ∧ v = okB a) ∧ o = some (.cells ⟨loadC [(⟨#[105, 97]⟩, w1, n1), (⟨#[105, 98]⟩, w2, n2), (⟨#[105, 100]⟩, w3, n3)]⟩ 46 (0, 0))) (bdK_ok rfl hp hw hn h1 h2 hk0 hk1 hs fun a ha => ⟨⟨a, ha, rfl⟩, rfl⟩)
    exact ⟨a, hG, hF.mono fun u g2 ⟨e1, e2⟩ => ⟨e1, by rw [e2]; exact hg⟩⟩
  · obtain ⟨v, g, ⟨⟨a, hG, rfl⟩, hg⟩, hF⟩ := FnOK.ffix (p := 1) (SBd_ok _) mixed Tryz.func16 some16 (bd1101_210 k fa w1 w2 w3 n1 n2 n3 fun v o => (∃ a, Good [(⟨#[105, 97]⟩, w1, n1), (⟨#[105, 98]⟩, w2, n2), (⟨#[105, 100]⟩, w3, n3)] fa a ∧ v = okB a) ∧ o = some (.cells ⟨loadC [(⟨#[105, 97]⟩, w1, n1), (⟨#[105, 98]⟩, w2, n2), (⟨#[105, 100]⟩, w3, n3)]⟩ 46 (0, 0))) (bdK_ok rfl hp hw hn h1 h2 hk0 hk1 hs fun a ha => ⟨⟨a, ha, rfl⟩, rfl⟩)
    exact ⟨a, hG, hF.mono fun u g2 ⟨e1, e2⟩ => ⟨e1, by rw [e2]; exact hg⟩⟩
theorem bnd1100 (k : ByteArray) (fa w1 w2 n1 n2 : Int) (hw : ∀ p ∈ ([(⟨#[105, 97]⟩, w1, n1), (⟨#[105, 98]⟩, w2, n2)] : List KWN), 1 ≤ p.2.1 ∧ p.2.1 ≤ 100) (hn : ∀ p ∈ ([(⟨#[105, 97]⟩, w1, n1), (⟨#[105, 98]⟩, w2, n2)] : List KWN), 0 ≤ p.2.2 ∧ p.2.2 ≤ 1000000)
    (h1 : 1000 ≤ fa) (h2 : fa ≤ 1000000) (hk0 : (k.toList == ByteArray.toList ⟨#[]⟩) = false) (hk1 : k.size ≤ 40) : ∃ a, BndP [(⟨#[105, 97]⟩, w1, n1), (⟨#[105, 98]⟩, w2, n2)] k fa a := by
  obtain ⟨ys, hp, hs⟩ := perm_map_inv (sortO_perm k (instKV [(⟨#[105, 97]⟩, w1, n1), (⟨#[105, 98]⟩, w2, n2)])) ([(⟨#[105, 97]⟩, w1, n1), (⟨#[105, 98]⟩, w2, n2)] : List KWN) rfl
  have hm := perms_mem _ _ hp
  rw [show perms ([(⟨#[105, 97]⟩, w1, n1), (⟨#[105, 98]⟩, w2, n2)] : List KWN) = [[(⟨#[105, 97]⟩, w1, n1), (⟨#[105, 98]⟩, w2, n2)], [(⟨#[105, 98]⟩, w2, n2), (⟨#[105, 97]⟩, w1, n1)]] from rfl] at hm
  simp only [List.mem_cons, List.not_mem_nil, or_false] at hm
  rcases hm with rfl | rfl
  · obtain ⟨v, g, ⟨⟨a, hG, rfl⟩, hg⟩, hF⟩ := FnOK.ffix (p := 1) (SBd_ok _) mixed Tryz.func16 some16 (bd1100_01 k fa w1 w2 n1 n2 fun v o => (∃ a, Good [(⟨#[105, 97]⟩, w1, n1), (⟨#[105, 98]⟩, w2, n2)] fa a ∧ v = okB a) ∧ o = some (.cells ⟨loadC [(⟨#[105, 97]⟩, w1, n1), (⟨#[105, 98]⟩, w2, n2)]⟩ 46 (0, 0))) (bdK_ok rfl hp hw hn h1 h2 hk0 hk1 hs fun a ha => ⟨⟨a, ha, rfl⟩, rfl⟩)
    exact ⟨a, hG, hF.mono fun u g2 ⟨e1, e2⟩ => ⟨e1, by rw [e2]; exact hg⟩⟩
  · obtain ⟨v, g, ⟨⟨a, hG, rfl⟩, hg⟩, hF⟩ := FnOK.ffix (p := 1) (SBd_ok _) mixed Tryz.func16 some16 (bd1100_10 k fa w1 w2 n1 n2 fun v o => (∃ a, Good [(⟨#[105, 97]⟩, w1, n1), (⟨#[105, 98]⟩, w2, n2)] fa a ∧ v = okB a) ∧ o = some (.cells ⟨loadC [(⟨#[105, 97]⟩, w1, n1), (⟨#[105, 98]⟩, w2, n2)]⟩ 46 (0, 0))) (bdK_ok rfl hp hw hn h1 h2 hk0 hk1 hs fun a ha => ⟨⟨a, ha, rfl⟩, rfl⟩)
    exact ⟨a, hG, hF.mono fun u g2 ⟨e1, e2⟩ => ⟨e1, by rw [e2]; exact hg⟩⟩
theorem bnd1011 (k : ByteArray) (fa w1 w2 w3 n1 n2 n3 : Int) (hw : ∀ p ∈ ([(⟨#[105, 97]⟩, w1, n1), (⟨#[105, 99]⟩, w2, n2), (⟨#[105, 100]⟩, w3, n3)] : List KWN), 1 ≤ p.2.1 ∧ p.2.1 ≤ 100) (hn : ∀ p ∈ ([(⟨#[105, 97]⟩, w1, n1), (⟨#[105, 99]⟩, w2, n2), (⟨#[105, 100]⟩, w3, n3)] : List KWN), 0 ≤ p.2.2 ∧ p.2.2 ≤ 1000000)
    (h1 : 1000 ≤ fa) (h2 : fa ≤ 1000000) (hk0 : (k.toList == ByteArray.toList ⟨#[]⟩) = false) (hk1 : k.size ≤ 40) : ∃ a, BndP [(⟨#[105, 97]⟩, w1, n1), (⟨#[105, 99]⟩, w2, n2), (⟨#[105, 100]⟩, w3, n3)] k fa a := by
  obtain ⟨ys, hp, hs⟩ := perm_map_inv (sortO_perm k (instKV [(⟨#[105, 97]⟩, w1, n1), (⟨#[105, 99]⟩, w2, n2), (⟨#[105, 100]⟩, w3, n3)])) ([(⟨#[105, 97]⟩, w1, n1), (⟨#[105, 99]⟩, w2, n2), (⟨#[105, 100]⟩, w3, n3)] : List KWN) rfl
  have hm := perms_mem _ _ hp
  rw [show perms ([(⟨#[105, 97]⟩, w1, n1), (⟨#[105, 99]⟩, w2, n2), (⟨#[105, 100]⟩, w3, n3)] : List KWN) = [[(⟨#[105, 97]⟩, w1, n1), (⟨#[105, 99]⟩, w2, n2), (⟨#[105, 100]⟩, w3, n3)], [(⟨#[105, 99]⟩, w2, n2), (⟨#[105, 97]⟩, w1, n1), (⟨#[105, 100]⟩, w3, n3)], [(⟨#[105, 99]⟩, w2, n2), (⟨#[105, 100]⟩, w3, n3), (⟨#[105, 97]⟩, w1, n1)], [(⟨#[105, 97]⟩, w1, n1), (⟨#[105, 100]⟩, w3, n3), (⟨#[105, 99]⟩, w2, n2)], [(⟨#[105, 100]⟩, w3, n3), (⟨#[105, 97]⟩, w1, n1), (⟨#[105, 99]⟩, w2, n2)], [(⟨#[105, 100]⟩, w3, n3), (⟨#[105, 99]⟩, w2, n2), (⟨#[105, 97]⟩, w1, n1)]] from rfl] at hm
  simp only [List.mem_cons, List.not_mem_nil, or_false] at hm
  rcases hm with rfl | rfl | rfl | rfl | rfl | rfl
  · obtain ⟨v, g, ⟨⟨a, hG, rfl⟩, hg⟩, hF⟩ := FnOK.ffix (p := 1) (SBd_ok _) mixed Tryz.func16 some16 (bd1011_012 k fa w1 w2 w3 n1 n2 n3 fun v o => (∃ a, Good [(⟨#[105, 97]⟩, w1, n1), (⟨#[105, 99]⟩, w2, n2), (⟨#[105, 100]⟩, w3, n3)] fa a ∧ v = okB a) ∧ o = some (.cells ⟨loadC [(⟨#[105, 97]⟩, w1, n1), (⟨#[105, 99]⟩, w2, n2), (⟨#[105, 100]⟩, w3, n3)]⟩ 46 (0, 0))) (bdK_ok rfl hp hw hn h1 h2 hk0 hk1 hs fun a ha => ⟨⟨a, ha, rfl⟩, rfl⟩)
    exact ⟨a, hG, hF.mono fun u g2 ⟨e1, e2⟩ => ⟨e1, by rw [e2]; exact hg⟩⟩
  · obtain ⟨v, g, ⟨⟨a, hG, rfl⟩, hg⟩, hF⟩ := FnOK.ffix (p := 1) (SBd_ok _) mixed Tryz.func16 some16 (bd1011_102 k fa w1 w2 w3 n1 n2 n3 fun v o => (∃ a, Good [(⟨#[105, 97]⟩, w1, n1), (⟨#[105, 99]⟩, w2, n2), (⟨#[105, 100]⟩, w3, n3)] fa a ∧ v = okB a) ∧ o = some (.cells ⟨loadC [(⟨#[105, 97]⟩, w1, n1), (⟨#[105, 99]⟩, w2, n2), (⟨#[105, 100]⟩, w3, n3)]⟩ 46 (0, 0))) (bdK_ok rfl hp hw hn h1 h2 hk0 hk1 hs fun a ha => ⟨⟨a, ha, rfl⟩, rfl⟩)
    exact ⟨a, hG, hF.mono fun u g2 ⟨e1, e2⟩ => ⟨e1, by rw [e2]; exact hg⟩⟩
  · obtain ⟨v, g, ⟨⟨a, hG, rfl⟩, hg⟩, hF⟩ := FnOK.ffix (p := 1) (SBd_ok _) mixed Tryz.func16 some16 (bd1011_120 k fa w1 w2 w3 n1 n2 n3 fun v o => (∃ a, Good [(⟨#[105, 97]⟩, w1, n1), (⟨#[105, 99]⟩, w2, n2), (⟨#[105, 100]⟩, w3, n3)] fa a ∧ v = okB a) ∧ o = some (.cells ⟨loadC [(⟨#[105, 97]⟩, w1, n1), (⟨#[105, 99]⟩, w2, n2), (⟨#[105, 100]⟩, w3, n3)]⟩ 46 (0, 0))) (bdK_ok rfl hp hw hn h1 h2 hk0 hk1 hs fun a ha => ⟨⟨a, ha, rfl⟩, rfl⟩)
    exact ⟨a, hG, hF.mono fun u g2 ⟨e1, e2⟩ => ⟨e1, by rw [e2]; exact hg⟩⟩
  · obtain ⟨v, g, ⟨⟨a, hG, rfl⟩, hg⟩, hF⟩ := FnOK.ffix (p := 1) (SBd_ok _) mixed Tryz.func16 some16 (bd1011_021 k fa w1 w2 w3 n1 n2 n3 fun v o => (∃ a, Good [(⟨#[105, 97]⟩, w1, n1), (⟨#[105, 99]⟩, w2, n2), (⟨#[105, 100]⟩, w3, n3)] fa a ∧ v = okB a) ∧ o = some (.cells ⟨loadC [(⟨#[105, 97]⟩, w1, n1), (⟨#[105, 99]⟩, w2, n2), (⟨#[105, 100]⟩, w3, n3)]⟩ 46 (0, 0))) (bdK_ok rfl hp hw hn h1 h2 hk0 hk1 hs fun a ha => ⟨⟨a, ha, rfl⟩, rfl⟩)
    exact ⟨a, hG, hF.mono fun u g2 ⟨e1, e2⟩ => ⟨e1, by rw [e2]; exact hg⟩⟩
  · obtain ⟨v, g, ⟨⟨a, hG, rfl⟩, hg⟩, hF⟩ := FnOK.ffix (p := 1) (SBd_ok _) mixed Tryz.func16 some16 (bd1011_201 k fa w1 w2 w3 n1 n2 n3 fun v o => (∃ a, Good [(⟨#[105, 97]⟩, w1, n1), (⟨#[105, 99]⟩, w2, n2), (⟨#[105, 100]⟩, w3, n3)] fa a ∧ v = okB a) ∧ o = some (.cells ⟨loadC [(⟨#[105, 97]⟩, w1, n1), (⟨#[105, 99]⟩, w2, n2), (⟨#[105, 100]⟩, w3, n3)]⟩ 46 (0, 0))) (bdK_ok rfl hp hw hn h1 h2 hk0 hk1 hs fun a ha => ⟨⟨a, ha, rfl⟩, rfl⟩)
    exact ⟨a, hG, hF.mono fun u g2 ⟨e1, e2⟩ => ⟨e1, by rw [e2]; exact hg⟩⟩
  · obtain ⟨v, g, ⟨⟨a, hG, rfl⟩, hg⟩, hF⟩ := FnOK.ffix (p := 1) (SBd_ok _) mixed Tryz.func16 some16 (bd1011_210 k fa w1 w2 w3 n1 n2 n3 fun v o => (∃ a, Good [(⟨#[105, 97]⟩, w1, n1), (⟨#[105, 99]⟩, w2, n2), (⟨#[105, 100]⟩, w3, n3)] fa a ∧ v = okB a) ∧ o = some (.cells ⟨loadC [(⟨#[105, 97]⟩, w1, n1), (⟨#[105, 99]⟩, w2, n2), (⟨#[105, 100]⟩, w3, n3)]⟩ 46 (0, 0))) (bdK_ok rfl hp hw hn h1 h2 hk0 hk1 hs fun a ha => ⟨⟨a, ha, rfl⟩, rfl⟩)
    exact ⟨a, hG, hF.mono fun u g2 ⟨e1, e2⟩ => ⟨e1, by rw [e2]; exact hg⟩⟩
theorem bnd1010 (k : ByteArray) (fa w1 w2 n1 n2 : Int) (hw : ∀ p ∈ ([(⟨#[105, 97]⟩, w1, n1), (⟨#[105, 99]⟩, w2, n2)] : List KWN), 1 ≤ p.2.1 ∧ p.2.1 ≤ 100) (hn : ∀ p ∈ ([(⟨#[105, 97]⟩, w1, n1), (⟨#[105, 99]⟩, w2, n2)] : List KWN), 0 ≤ p.2.2 ∧ p.2.2 ≤ 1000000)
    (h1 : 1000 ≤ fa) (h2 : fa ≤ 1000000) (hk0 : (k.toList == ByteArray.toList ⟨#[]⟩) = false) (hk1 : k.size ≤ 40) : ∃ a, BndP [(⟨#[105, 97]⟩, w1, n1), (⟨#[105, 99]⟩, w2, n2)] k fa a := by
  obtain ⟨ys, hp, hs⟩ := perm_map_inv (sortO_perm k (instKV [(⟨#[105, 97]⟩, w1, n1), (⟨#[105, 99]⟩, w2, n2)])) ([(⟨#[105, 97]⟩, w1, n1), (⟨#[105, 99]⟩, w2, n2)] : List KWN) rfl
  have hm := perms_mem _ _ hp
  rw [show perms ([(⟨#[105, 97]⟩, w1, n1), (⟨#[105, 99]⟩, w2, n2)] : List KWN) = [[(⟨#[105, 97]⟩, w1, n1), (⟨#[105, 99]⟩, w2, n2)], [(⟨#[105, 99]⟩, w2, n2), (⟨#[105, 97]⟩, w1, n1)]] from rfl] at hm
  simp only [List.mem_cons, List.not_mem_nil, or_false] at hm
  rcases hm with rfl | rfl
  · obtain ⟨v, g, ⟨⟨a, hG, rfl⟩, hg⟩, hF⟩ := FnOK.ffix (p := 1) (SBd_ok _) mixed Tryz.func16 some16 (bd1010_01 k fa w1 w2 n1 n2 fun v o => (∃ a, Good [(⟨#[105, 97]⟩, w1, n1), (⟨#[105, 99]⟩, w2, n2)] fa a ∧ v = okB a) ∧ o = some (.cells ⟨loadC [(⟨#[105, 97]⟩, w1, n1), (⟨#[105, 99]⟩, w2, n2)]⟩ 46 (0, 0))) (bdK_ok rfl hp hw hn h1 h2 hk0 hk1 hs fun a ha => ⟨⟨a, ha, rfl⟩, rfl⟩)
    exact ⟨a, hG, hF.mono fun u g2 ⟨e1, e2⟩ => ⟨e1, by rw [e2]; exact hg⟩⟩
  · obtain ⟨v, g, ⟨⟨a, hG, rfl⟩, hg⟩, hF⟩ := FnOK.ffix (p := 1) (SBd_ok _) mixed Tryz.func16 some16 (bd1010_10 k fa w1 w2 n1 n2 fun v o => (∃ a, Good [(⟨#[105, 97]⟩, w1, n1), (⟨#[105, 99]⟩, w2, n2)] fa a ∧ v = okB a) ∧ o = some (.cells ⟨loadC [(⟨#[105, 97]⟩, w1, n1), (⟨#[105, 99]⟩, w2, n2)]⟩ 46 (0, 0))) (bdK_ok rfl hp hw hn h1 h2 hk0 hk1 hs fun a ha => ⟨⟨a, ha, rfl⟩, rfl⟩)
    exact ⟨a, hG, hF.mono fun u g2 ⟨e1, e2⟩ => ⟨e1, by rw [e2]; exact hg⟩⟩
theorem bnd1001 (k : ByteArray) (fa w1 w2 n1 n2 : Int) (hw : ∀ p ∈ ([(⟨#[105, 97]⟩, w1, n1), (⟨#[105, 100]⟩, w2, n2)] : List KWN), 1 ≤ p.2.1 ∧ p.2.1 ≤ 100) (hn : ∀ p ∈ ([(⟨#[105, 97]⟩, w1, n1), (⟨#[105, 100]⟩, w2, n2)] : List KWN), 0 ≤ p.2.2 ∧ p.2.2 ≤ 1000000)
    (h1 : 1000 ≤ fa) (h2 : fa ≤ 1000000) (hk0 : (k.toList == ByteArray.toList ⟨#[]⟩) = false) (hk1 : k.size ≤ 40) : ∃ a, BndP [(⟨#[105, 97]⟩, w1, n1), (⟨#[105, 100]⟩, w2, n2)] k fa a := by
  obtain ⟨ys, hp, hs⟩ := perm_map_inv (sortO_perm k (instKV [(⟨#[105, 97]⟩, w1, n1), (⟨#[105, 100]⟩, w2, n2)])) ([(⟨#[105, 97]⟩, w1, n1), (⟨#[105, 100]⟩, w2, n2)] : List KWN) rfl
  have hm := perms_mem _ _ hp
  rw [show perms ([(⟨#[105, 97]⟩, w1, n1), (⟨#[105, 100]⟩, w2, n2)] : List KWN) = [[(⟨#[105, 97]⟩, w1, n1), (⟨#[105, 100]⟩, w2, n2)], [(⟨#[105, 100]⟩, w2, n2), (⟨#[105, 97]⟩, w1, n1)]] from rfl] at hm
  simp only [List.mem_cons, List.not_mem_nil, or_false] at hm
  rcases hm with rfl | rfl
  · obtain ⟨v, g, ⟨⟨a, hG, rfl⟩, hg⟩, hF⟩ := FnOK.ffix (p := 1) (SBd_ok _) mixed Tryz.func16 some16 (bd1001_01 k fa w1 w2 n1 n2 fun v o => (∃ a, Good [(⟨#[105, 97]⟩, w1, n1), (⟨#[105, 100]⟩, w2, n2)] fa a ∧ v = okB a) ∧ o = some (.cells ⟨loadC [(⟨#[105, 97]⟩, w1, n1), (⟨#[105, 100]⟩, w2, n2)]⟩ 46 (0, 0))) (bdK_ok rfl hp hw hn h1 h2 hk0 hk1 hs fun a ha => ⟨⟨a, ha, rfl⟩, rfl⟩)
    exact ⟨a, hG, hF.mono fun u g2 ⟨e1, e2⟩ => ⟨e1, by rw [e2]; exact hg⟩⟩
  · obtain ⟨v, g, ⟨⟨a, hG, rfl⟩, hg⟩, hF⟩ := FnOK.ffix (p := 1) (SBd_ok _) mixed Tryz.func16 some16 (bd1001_10 k fa w1 w2 n1 n2 fun v o => (∃ a, Good [(⟨#[105, 97]⟩, w1, n1), (⟨#[105, 100]⟩, w2, n2)] fa a ∧ v = okB a) ∧ o = some (.cells ⟨loadC [(⟨#[105, 97]⟩, w1, n1), (⟨#[105, 100]⟩, w2, n2)]⟩ 46 (0, 0))) (bdK_ok rfl hp hw hn h1 h2 hk0 hk1 hs fun a ha => ⟨⟨a, ha, rfl⟩, rfl⟩)
    exact ⟨a, hG, hF.mono fun u g2 ⟨e1, e2⟩ => ⟨e1, by rw [e2]; exact hg⟩⟩
theorem bnd1000 (k : ByteArray) (fa w1 n1 : Int) (hw : ∀ p ∈ ([(⟨#[105, 97]⟩, w1, n1)] : List KWN), 1 ≤ p.2.1 ∧ p.2.1 ≤ 100) (hn : ∀ p ∈ ([(⟨#[105, 97]⟩, w1, n1)] : List KWN), 0 ≤ p.2.2 ∧ p.2.2 ≤ 1000000)
    (h1 : 1000 ≤ fa) (h2 : fa ≤ 1000000) (hk0 : (k.toList == ByteArray.toList ⟨#[]⟩) = false) (hk1 : k.size ≤ 40) : ∃ a, BndP [(⟨#[105, 97]⟩, w1, n1)] k fa a := by
  obtain ⟨ys, hp, hs⟩ := perm_map_inv (sortO_perm k (instKV [(⟨#[105, 97]⟩, w1, n1)])) ([(⟨#[105, 97]⟩, w1, n1)] : List KWN) rfl
  have hm := perms_mem _ _ hp
  rw [show perms ([(⟨#[105, 97]⟩, w1, n1)] : List KWN) = [[(⟨#[105, 97]⟩, w1, n1)]] from rfl] at hm
  simp only [List.mem_cons, List.not_mem_nil, or_false] at hm
  subst hm
  obtain ⟨v, g, ⟨⟨a, hG, rfl⟩, hg⟩, hF⟩ := FnOK.ffix (p := 1) (SBd_ok _) mixed Tryz.func16 some16 (bd1000_0 k fa w1 n1 fun v o => (∃ a, Good [(⟨#[105, 97]⟩, w1, n1)] fa a ∧ v = okB a) ∧ o = some (.cells ⟨loadC [(⟨#[105, 97]⟩, w1, n1)]⟩ 46 (0, 0))) (bdK_ok rfl hp hw hn h1 h2 hk0 hk1 hs fun a ha => ⟨⟨a, ha, rfl⟩, rfl⟩)
  exact ⟨a, hG, hF.mono fun u g2 ⟨e1, e2⟩ => ⟨e1, by rw [e2]; exact hg⟩⟩
theorem bnd0111 (k : ByteArray) (fa w1 w2 w3 n1 n2 n3 : Int) (hw : ∀ p ∈ ([(⟨#[105, 98]⟩, w1, n1), (⟨#[105, 99]⟩, w2, n2), (⟨#[105, 100]⟩, w3, n3)] : List KWN), 1 ≤ p.2.1 ∧ p.2.1 ≤ 100) (hn : ∀ p ∈ ([(⟨#[105, 98]⟩, w1, n1), (⟨#[105, 99]⟩, w2, n2), (⟨#[105, 100]⟩, w3, n3)] : List KWN), 0 ≤ p.2.2 ∧ p.2.2 ≤ 1000000)
    (h1 : 1000 ≤ fa) (h2 : fa ≤ 1000000) (hk0 : (k.toList == ByteArray.toList ⟨#[]⟩) = false) (hk1 : k.size ≤ 40) : ∃ a, BndP [(⟨#[105, 98]⟩, w1, n1), (⟨#[105, 99]⟩, w2, n2), (⟨#[105, 100]⟩, w3, n3)] k fa a := by
  obtain ⟨ys, hp, hs⟩ := perm_map_inv (sortO_perm k (instKV [(⟨#[105, 98]⟩, w1, n1), (⟨#[105, 99]⟩, w2, n2), (⟨#[105, 100]⟩, w3, n3)])) ([(⟨#[105, 98]⟩, w1, n1), (⟨#[105, 99]⟩, w2, n2), (⟨#[105, 100]⟩, w3, n3)] : List KWN) rfl
  have hm := perms_mem _ _ hp
  rw [show perms ([(⟨#[105, 98]⟩, w1, n1), (⟨#[105, 99]⟩, w2, n2), (⟨#[105, 100]⟩, w3, n3)] : List KWN) = [[(⟨#[105, 98]⟩, w1, n1), (⟨#[105, 99]⟩, w2, n2), (⟨#[105, 100]⟩, w3, n3)], [(⟨#[105, 99]⟩, w2, n2), (⟨#[105, 98]⟩, w1, n1), (⟨#[105, 100]⟩, w3, n3)], [(⟨#[105, 99]⟩, w2, n2), (⟨#[105, 100]⟩, w3, n3), (⟨#[105, 98]⟩, w1, n1)], [(⟨#[105, 98]⟩, w1, n1), (⟨#[105, 100]⟩, w3, n3), (⟨#[105, 99]⟩, w2, n2)], [(⟨#[105, 100]⟩, w3, n3), (⟨#[105, 98]⟩, w1, n1), (⟨#[105, 99]⟩, w2, n2)], [(⟨#[105, 100]⟩, w3, n3), (⟨#[105, 99]⟩, w2, n2), (⟨#[105, 98]⟩, w1, n1)]] from rfl] at hm
  simp only [List.mem_cons, List.not_mem_nil, or_false] at hm
  rcases hm with rfl | rfl | rfl | rfl | rfl | rfl
  · obtain ⟨v, g, ⟨⟨a, hG, rfl⟩, hg⟩, hF⟩ := FnOK.ffix (p := 1) (SBd_ok _) mixed Tryz.func16 some16 (bd0111_012 k fa w1 w2 w3 n1 n2 n3 fun v o => (∃ a, Good [(⟨#[105, 98]⟩, w1, n1), (⟨#[105, 99]⟩, w2, n2), (⟨#[105, 100]⟩, w3, n3)] fa a ∧ v = okB a) ∧ o = some (.cells ⟨loadC [(⟨#[105, 98]⟩, w1, n1), (⟨#[105, 99]⟩, w2, n2), (⟨#[105, 100]⟩, w3, n3)]⟩ 46 (0, 0))) (bdK_ok rfl hp hw hn h1 h2 hk0 hk1 hs fun a ha => ⟨⟨a, ha, rfl⟩, rfl⟩)
    exact ⟨a, hG, hF.mono fun u g2 ⟨e1, e2⟩ => ⟨e1, by rw [e2]; exact hg⟩⟩
  · obtain ⟨v, g, ⟨⟨a, hG, rfl⟩, hg⟩, hF⟩ := FnOK.ffix (p := 1) (SBd_ok _) mixed Tryz.func16 some16 (bd0111_102 k fa w1 w2 w3 n1 n2 n3 fun v o => (∃ a, Good [(⟨#[105, 98]⟩, w1, n1), (⟨#[105, 99]⟩, w2, n2), (⟨#[105, 100]⟩, w3, n3)] fa a ∧ v = okB a) ∧ o = some (.cells ⟨loadC [(⟨#[105, 98]⟩, w1, n1), (⟨#[105, 99]⟩, w2, n2), (⟨#[105, 100]⟩, w3, n3)]⟩ 46 (0, 0))) (bdK_ok rfl hp hw hn h1 h2 hk0 hk1 hs fun a ha => ⟨⟨a, ha, rfl⟩, rfl⟩)
    exact ⟨a, hG, hF.mono fun u g2 ⟨e1, e2⟩ => ⟨e1, by rw [e2]; exact hg⟩⟩
  · obtain ⟨v, g, ⟨⟨a, hG, rfl⟩, hg⟩, hF⟩ := FnOK.ffix (p := 1) (SBd_ok _) mixed Tryz.func16 some16 (bd0111_120 k fa w1 w2 w3 n1 n2 n3 fun v o => (∃ a, Good [(⟨#[105, 98]⟩, w1, n1), (⟨#[105, 99]⟩, w2, n2), (⟨#[105, 100]⟩, w3, n3)] fa a ∧ v = okB a) ∧ o = some (.cells ⟨loadC [(⟨#[105, 98]⟩, w1, n1), (⟨#[105, 99]⟩, w2, n2), (⟨#[105, 100]⟩, w3, n3)]⟩ 46 (0, 0))) (bdK_ok rfl hp hw hn h1 h2 hk0 hk1 hs fun a ha => ⟨⟨a, ha, rfl⟩, rfl⟩)
    exact ⟨a, hG, hF.mono fun u g2 ⟨e1, e2⟩ => ⟨e1, by rw [e2]; exact hg⟩⟩
  · obtain ⟨v, g, ⟨⟨a, hG, rfl⟩, hg⟩, hF⟩ := FnOK.ffix (p := 1) (SBd_ok _) mixed Tryz.func16 some16 (bd0111_021 k fa w1 w2 w3 n1 n2 n3 fun v o => (∃ a, Good [(⟨#[105, 98]⟩, w1, n1), (⟨#[105, 99]⟩, w2, n2), (⟨#[105, 100]⟩, w3, n3)] fa a ∧ v = okB a) ∧ o = some (.cells ⟨loadC [(⟨#[105, 98]⟩, w1, n1), (⟨#[105, 99]⟩, w2, n2), (⟨#[105, 100]⟩, w3, n3)]⟩ 46 (0, 0))) (bdK_ok rfl hp hw hn h1 h2 hk0 hk1 hs fun a ha => ⟨⟨a, ha, rfl⟩, rfl⟩)
    exact ⟨a, hG, hF.mono fun u g2 ⟨e1, e2⟩ => ⟨e1, by rw [e2]; exact hg⟩⟩
  · obtain ⟨v, g, ⟨⟨a, hG, rfl⟩, hg⟩, hF⟩ := FnOK.ffix (p := 1) (SBd_ok _) mixed Tryz.func16 some16 (bd0111_201 k fa w1 w2 w3 n1 n2 n3 fun v o => (∃ a, Good [(⟨#[105, 98]⟩, w1, n1), (⟨#[105, 99]⟩, w2, n2), (⟨#[105, 100]⟩, w3, n3)] fa a ∧ v = okB a) ∧ o = some (.cells ⟨loadC [(⟨#[105, 98]⟩, w1, n1), (⟨#[105, 99]⟩, w2, n2), (⟨#[105, 100]⟩, w3, n3)]⟩ 46 (0, 0))) (bdK_ok rfl hp hw hn h1 h2 hk0 hk1 hs fun a ha => ⟨⟨a, ha, rfl⟩, rfl⟩)
    exact ⟨a, hG, hF.mono fun u g2 ⟨e1, e2⟩ => ⟨e1, by rw [e2]; exact hg⟩⟩
  · obtain ⟨v, g, ⟨⟨a, hG, rfl⟩, hg⟩, hF⟩ := FnOK.ffix (p := 1) (SBd_ok _) mixed Tryz.func16 some16 (bd0111_210 k fa w1 w2 w3 n1 n2 n3 fun v o => (∃ a, Good [(⟨#[105, 98]⟩, w1, n1), (⟨#[105, 99]⟩, w2, n2), (⟨#[105, 100]⟩, w3, n3)] fa a ∧ v = okB a) ∧ o = some (.cells ⟨loadC [(⟨#[105, 98]⟩, w1, n1), (⟨#[105, 99]⟩, w2, n2), (⟨#[105, 100]⟩, w3, n3)]⟩ 46 (0, 0))) (bdK_ok rfl hp hw hn h1 h2 hk0 hk1 hs fun a ha => ⟨⟨a, ha, rfl⟩, rfl⟩)
    exact ⟨a, hG, hF.mono fun u g2 ⟨e1, e2⟩ => ⟨e1, by rw [e2]; exact hg⟩⟩
theorem bnd0110 (k : ByteArray) (fa w1 w2 n1 n2 : Int) (hw : ∀ p ∈ ([(⟨#[105, 98]⟩, w1, n1), (⟨#[105, 99]⟩, w2, n2)] : List KWN), 1 ≤ p.2.1 ∧ p.2.1 ≤ 100) (hn : ∀ p ∈ ([(⟨#[105, 98]⟩, w1, n1), (⟨#[105, 99]⟩, w2, n2)] : List KWN), 0 ≤ p.2.2 ∧ p.2.2 ≤ 1000000)
    (h1 : 1000 ≤ fa) (h2 : fa ≤ 1000000) (hk0 : (k.toList == ByteArray.toList ⟨#[]⟩) = false) (hk1 : k.size ≤ 40) : ∃ a, BndP [(⟨#[105, 98]⟩, w1, n1), (⟨#[105, 99]⟩, w2, n2)] k fa a := by
  obtain ⟨ys, hp, hs⟩ := perm_map_inv (sortO_perm k (instKV [(⟨#[105, 98]⟩, w1, n1), (⟨#[105, 99]⟩, w2, n2)])) ([(⟨#[105, 98]⟩, w1, n1), (⟨#[105, 99]⟩, w2, n2)] : List KWN) rfl
  have hm := perms_mem _ _ hp
  rw [show perms ([(⟨#[105, 98]⟩, w1, n1), (⟨#[105, 99]⟩, w2, n2)] : List KWN) = [[(⟨#[105, 98]⟩, w1, n1), (⟨#[105, 99]⟩, w2, n2)], [(⟨#[105, 99]⟩, w2, n2), (⟨#[105, 98]⟩, w1, n1)]] from rfl] at hm
  simp only [List.mem_cons, List.not_mem_nil, or_false] at hm
  rcases hm with rfl | rfl
  · obtain ⟨v, g, ⟨⟨a, hG, rfl⟩, hg⟩, hF⟩ := FnOK.ffix (p := 1) (SBd_ok _) mixed Tryz.func16 some16 (bd0110_01 k fa w1 w2 n1 n2 fun v o => (∃ a, Good [(⟨#[105, 98]⟩, w1, n1), (⟨#[105, 99]⟩, w2, n2)] fa a ∧ v = okB a) ∧ o = some (.cells ⟨loadC [(⟨#[105, 98]⟩, w1, n1), (⟨#[105, 99]⟩, w2, n2)]⟩ 46 (0, 0))) (bdK_ok rfl hp hw hn h1 h2 hk0 hk1 hs fun a ha => ⟨⟨a, ha, rfl⟩, rfl⟩)
    exact ⟨a, hG, hF.mono fun u g2 ⟨e1, e2⟩ => ⟨e1, by rw [e2]; exact hg⟩⟩
  · obtain ⟨v, g, ⟨⟨a, hG, rfl⟩, hg⟩, hF⟩ := FnOK.ffix (p := 1) (SBd_ok _) mixed Tryz.func16 some16 (bd0110_10 k fa w1 w2 n1 n2 fun v o => (∃ a, Good [(⟨#[105, 98]⟩, w1, n1), (⟨#[105, 99]⟩, w2, n2)] fa a ∧ v = okB a) ∧ o = some (.cells ⟨loadC [(⟨#[105, 98]⟩, w1, n1), (⟨#[105, 99]⟩, w2, n2)]⟩ 46 (0, 0))) (bdK_ok rfl hp hw hn h1 h2 hk0 hk1 hs fun a ha => ⟨⟨a, ha, rfl⟩, rfl⟩)
    exact ⟨a, hG, hF.mono fun u g2 ⟨e1, e2⟩ => ⟨e1, by rw [e2]; exact hg⟩⟩
theorem bnd0101 (k : ByteArray) (fa w1 w2 n1 n2 : Int) (hw : ∀ p ∈ ([(⟨#[105, 98]⟩, w1, n1), (⟨#[105, 100]⟩, w2, n2)] : List KWN), 1 ≤ p.2.1 ∧ p.2.1 ≤ 100) (hn : ∀ p ∈ ([(⟨#[105, 98]⟩, w1, n1), (⟨#[105, 100]⟩, w2, n2)] : List KWN), 0 ≤ p.2.2 ∧ p.2.2 ≤ 1000000)
    (h1 : 1000 ≤ fa) (h2 : fa ≤ 1000000) (hk0 : (k.toList == ByteArray.toList ⟨#[]⟩) = false) (hk1 : k.size ≤ 40) : ∃ a, BndP [(⟨#[105, 98]⟩, w1, n1), (⟨#[105, 100]⟩, w2, n2)] k fa a := by
  obtain ⟨ys, hp, hs⟩ := perm_map_inv (sortO_perm k (instKV [(⟨#[105, 98]⟩, w1, n1), (⟨#[105, 100]⟩, w2, n2)])) ([(⟨#[105, 98]⟩, w1, n1), (⟨#[105, 100]⟩, w2, n2)] : List KWN) rfl
  have hm := perms_mem _ _ hp
  rw [show perms ([(⟨#[105, 98]⟩, w1, n1), (⟨#[105, 100]⟩, w2, n2)] : List KWN) = [[(⟨#[105, 98]⟩, w1, n1), (⟨#[105, 100]⟩, w2, n2)], [(⟨#[105, 100]⟩, w2, n2), (⟨#[105, 98]⟩, w1, n1)]] from rfl] at hm
  simp only [List.mem_cons, List.not_mem_nil, or_false] at hm
  rcases hm with rfl | rfl
  · obtain ⟨v, g, ⟨⟨a, hG, rfl⟩, hg⟩, hF⟩ := FnOK.ffix (p := 1) (SBd_ok _) mixed Tryz.func16 some16 (bd0101_01 k fa w1 w2 n1 n2 fun v o => (∃ a, Good [(⟨#[105, 98]⟩, w1, n1), (⟨#[105, 100]⟩, w2, n2)] fa a ∧ v = okB a) ∧ o = some (.cells ⟨loadC [(⟨#[105, 98]⟩, w1, n1), (⟨#[105, 100]⟩, w2, n2)]⟩ 46 (0, 0))) (bdK_ok rfl hp hw hn h1 h2 hk0 hk1 hs fun a ha => ⟨⟨a, ha, rfl⟩, rfl⟩)
    exact ⟨a, hG, hF.mono fun u g2 ⟨e1, e2⟩ => ⟨e1, by rw [e2]; exact hg⟩⟩
  · obtain ⟨v, g, ⟨⟨a, hG, rfl⟩, hg⟩, hF⟩ := FnOK.ffix (p := 1) (SBd_ok _) mixed Tryz.func16 some16 (bd0101_10 k fa w1 w2 n1 n2 fun v o => (∃ a, Good [(⟨#[105, 98]⟩, w1, n1), (⟨#[105, 100]⟩, w2, n2)] fa a ∧ v = okB a) ∧ o = some (.cells ⟨loadC [(⟨#[105, 98]⟩, w1, n1), (⟨#[105, 100]⟩, w2, n2)]⟩ 46 (0, 0))) (bdK_ok rfl hp hw hn h1 h2 hk0 hk1 hs fun a ha => ⟨⟨a, ha, rfl⟩, rfl⟩)
    exact ⟨a, hG, hF.mono fun u g2 ⟨e1, e2⟩ => ⟨e1, by rw [e2]; exact hg⟩⟩
theorem bnd0100 (k : ByteArray) (fa w1 n1 : Int) (hw : ∀ p ∈ ([(⟨#[105, 98]⟩, w1, n1)] : List KWN), 1 ≤ p.2.1 ∧ p.2.1 ≤ 100) (hn : ∀ p ∈ ([(⟨#[105, 98]⟩, w1, n1)] : List KWN), 0 ≤ p.2.2 ∧ p.2.2 ≤ 1000000)
    (h1 : 1000 ≤ fa) (h2 : fa ≤ 1000000) (hk0 : (k.toList == ByteArray.toList ⟨#[]⟩) = false) (hk1 : k.size ≤ 40) : ∃ a, BndP [(⟨#[105, 98]⟩, w1, n1)] k fa a := by
  obtain ⟨ys, hp, hs⟩ := perm_map_inv (sortO_perm k (instKV [(⟨#[105, 98]⟩, w1, n1)])) ([(⟨#[105, 98]⟩, w1, n1)] : List KWN) rfl
  have hm := perms_mem _ _ hp
  rw [show perms ([(⟨#[105, 98]⟩, w1, n1)] : List KWN) = [[(⟨#[105, 98]⟩, w1, n1)]] from rfl] at hm
  simp only [List.mem_cons, List.not_mem_nil, or_false] at hm
  subst hm
  obtain ⟨v, g, ⟨⟨a, hG, rfl⟩, hg⟩, hF⟩ := FnOK.ffix (p := 1) (SBd_ok _) mixed Tryz.func16 some16 (bd0100_0 k fa w1 n1 fun v o => (∃ a, Good [(⟨#[105, 98]⟩, w1, n1)] fa a ∧ v = okB a) ∧ o = some (.cells ⟨loadC [(⟨#[105, 98]⟩, w1, n1)]⟩ 46 (0, 0))) (bdK_ok rfl hp hw hn h1 h2 hk0 hk1 hs fun a ha => ⟨⟨a, ha, rfl⟩, rfl⟩)
  exact ⟨a, hG, hF.mono fun u g2 ⟨e1, e2⟩ => ⟨e1, by rw [e2]; exact hg⟩⟩
theorem bnd0011 (k : ByteArray) (fa w1 w2 n1 n2 : Int) (hw : ∀ p ∈ ([(⟨#[105, 99]⟩, w1, n1), (⟨#[105, 100]⟩, w2, n2)] : List KWN), 1 ≤ p.2.1 ∧ p.2.1 ≤ 100) (hn : ∀ p ∈ ([(⟨#[105, 99]⟩, w1, n1), (⟨#[105, 100]⟩, w2, n2)] : List KWN), 0 ≤ p.2.2 ∧ p.2.2 ≤ 1000000)
    (h1 : 1000 ≤ fa) (h2 : fa ≤ 1000000) (hk0 : (k.toList == ByteArray.toList ⟨#[]⟩) = false) (hk1 : k.size ≤ 40) : ∃ a, BndP [(⟨#[105, 99]⟩, w1, n1), (⟨#[105, 100]⟩, w2, n2)] k fa a := by
  obtain ⟨ys, hp, hs⟩ := perm_map_inv (sortO_perm k (instKV [(⟨#[105, 99]⟩, w1, n1), (⟨#[105, 100]⟩, w2, n2)])) ([(⟨#[105, 99]⟩, w1, n1), (⟨#[105, 100]⟩, w2, n2)] : List KWN) rfl
  have hm := perms_mem _ _ hp
  rw [show perms ([(⟨#[105, 99]⟩, w1, n1), (⟨#[105, 100]⟩, w2, n2)] : List KWN) = [[(⟨#[105, 99]⟩, w1, n1), (⟨#[105, 100]⟩, w2, n2)], [(⟨#[105, 100]⟩, w2, n2), (⟨#[105, 99]⟩, w1, n1)]] from rfl] at hm
  simp only [List.mem_cons, List.not_mem_nil, or_false] at hm
  rcases hm with rfl | rfl
  · obtain ⟨v, g, ⟨⟨a, hG, rfl⟩, hg⟩, hF⟩ := FnOK.ffix (p := 1) (SBd_ok _) mixed Tryz.func16 some16 (bd0011_01 k fa w1 w2 n1 n2 fun v o => (∃ a, Good [(⟨#[105, 99]⟩, w1, n1), (⟨#[105, 100]⟩, w2, n2)] fa a ∧ v = okB a) ∧ o = some (.cells ⟨loadC [(⟨#[105, 99]⟩, w1, n1), (⟨#[105, 100]⟩, w2, n2)]⟩ 46 (0, 0))) (bdK_ok rfl hp hw hn h1 h2 hk0 hk1 hs fun a ha => ⟨⟨a, ha, rfl⟩, rfl⟩)
    exact ⟨a, hG, hF.mono fun u g2 ⟨e1, e2⟩ => ⟨e1, by rw [e2]; exact hg⟩⟩
  · obtain ⟨v, g, ⟨⟨a, hG, rfl⟩, hg⟩, hF⟩ := FnOK.ffix (p := 1) (SBd_ok _) mixed Tryz.func16 some16 (bd0011_10 k fa w1 w2 n1 n2 fun v o => (∃ a, Good [(⟨#[105, 99]⟩, w1, n1), (⟨#[105, 100]⟩, w2, n2)] fa a ∧ v = okB a) ∧ o = some (.cells ⟨loadC [(⟨#[105, 99]⟩, w1, n1), (⟨#[105, 100]⟩, w2, n2)]⟩ 46 (0, 0))) (bdK_ok rfl hp hw hn h1 h2 hk0 hk1 hs fun a ha => ⟨⟨a, ha, rfl⟩, rfl⟩)
    exact ⟨a, hG, hF.mono fun u g2 ⟨e1, e2⟩ => ⟨e1, by rw [e2]; exact hg⟩⟩
theorem bnd0010 (k : ByteArray) (fa w1 n1 : Int) (hw : ∀ p ∈ ([(⟨#[105, 99]⟩, w1, n1)] : List KWN), 1 ≤ p.2.1 ∧ p.2.1 ≤ 100) (hn : ∀ p ∈ ([(⟨#[105, 99]⟩, w1, n1)] : List KWN), 0 ≤ p.2.2 ∧ p.2.2 ≤ 1000000)
    (h1 : 1000 ≤ fa) (h2 : fa ≤ 1000000) (hk0 : (k.toList == ByteArray.toList ⟨#[]⟩) = false) (hk1 : k.size ≤ 40) : ∃ a, BndP [(⟨#[105, 99]⟩, w1, n1)] k fa a := by
  obtain ⟨ys, hp, hs⟩ := perm_map_inv (sortO_perm k (instKV [(⟨#[105, 99]⟩, w1, n1)])) ([(⟨#[105, 99]⟩, w1, n1)] : List KWN) rfl
  have hm := perms_mem _ _ hp
  rw [show perms ([(⟨#[105, 99]⟩, w1, n1)] : List KWN) = [[(⟨#[105, 99]⟩, w1, n1)]] from rfl] at hm
  simp only [List.mem_cons, List.not_mem_nil, or_false] at hm
  subst hm
  obtain ⟨v, g, ⟨⟨a, hG, rfl⟩, hg⟩, hF⟩ := FnOK.ffix (p := 1) (SBd_ok _) mixed Tryz.func16 some16 (bd0010_0 k fa w1 n1 fun v o => (∃ a, Good [(⟨#[105, 99]⟩, w1, n1)] fa a ∧ v = okB a) ∧ o = some (.cells ⟨loadC [(⟨#[105, 99]⟩, w1, n1)]⟩ 46 (0, 0))) (bdK_ok rfl hp hw hn h1 h2 hk0 hk1 hs fun a ha => ⟨⟨a, ha, rfl⟩, rfl⟩)
  exact ⟨a, hG, hF.mono fun u g2 ⟨e1, e2⟩ => ⟨e1, by rw [e2]; exact hg⟩⟩
theorem bnd0001 (k : ByteArray) (fa w1 n1 : Int) (hw : ∀ p ∈ ([(⟨#[105, 100]⟩, w1, n1)] : List KWN), 1 ≤ p.2.1 ∧ p.2.1 ≤ 100) (hn : ∀ p ∈ ([(⟨#[105, 100]⟩, w1, n1)] : List KWN), 0 ≤ p.2.2 ∧ p.2.2 ≤ 1000000)
    (h1 : 1000 ≤ fa) (h2 : fa ≤ 1000000) (hk0 : (k.toList == ByteArray.toList ⟨#[]⟩) = false) (hk1 : k.size ≤ 40) : ∃ a, BndP [(⟨#[105, 100]⟩, w1, n1)] k fa a := by
  obtain ⟨ys, hp, hs⟩ := perm_map_inv (sortO_perm k (instKV [(⟨#[105, 100]⟩, w1, n1)])) ([(⟨#[105, 100]⟩, w1, n1)] : List KWN) rfl
  have hm := perms_mem _ _ hp
  rw [show perms ([(⟨#[105, 100]⟩, w1, n1)] : List KWN) = [[(⟨#[105, 100]⟩, w1, n1)]] from rfl] at hm
  simp only [List.mem_cons, List.not_mem_nil, or_false] at hm
  subst hm
  obtain ⟨v, g, ⟨⟨a, hG, rfl⟩, hg⟩, hF⟩ := FnOK.ffix (p := 1) (SBd_ok _) mixed Tryz.func16 some16 (bd0001_0 k fa w1 n1 fun v o => (∃ a, Good [(⟨#[105, 100]⟩, w1, n1)] fa a ∧ v = okB a) ∧ o = some (.cells ⟨loadC [(⟨#[105, 100]⟩, w1, n1)]⟩ 46 (0, 0))) (bdK_ok rfl hp hw hn h1 h2 hk0 hk1 hs fun a ha => ⟨⟨a, ha, rfl⟩, rfl⟩)
  exact ⟨a, hG, hF.mono fun u g2 ⟨e1, e2⟩ => ⟨e1, by rw [e2]; exact hg⟩⟩
theorem bnd_ex (l : List KWN) (k : ByteArray) (fa : Int) (hk : l.map Prod.fst ∈ keys4) (hw : ∀ p ∈ l, 1 ≤ p.2.1 ∧ p.2.1 ≤ 100) (hn : ∀ p ∈ l, 0 ≤ p.2.2 ∧ p.2.2 ≤ 1000000)
    (h1 : 1000 ≤ fa) (h2 : fa ≤ 1000000) (hk0 : (k.toList == ByteArray.toList ⟨#[]⟩) = false) (hk1 : k.size ≤ 40) : ∃ a, BndP l k fa a := by
  simp only [keys4, List.mem_cons, List.not_mem_nil, or_false] at hk
  rcases hk with h | h | h | h | h | h | h | h | h | h | h | h | h | h | h
  · match l, h, hw, hn with
    | [(a0, w0, n0)], h, hw, hn =>
      simp only [List.map_cons, List.map_nil, List.cons.injEq, and_true] at h
      subst h
      exact bnd1000 k fa w0 n0 hw hn h1 h2 hk0 hk1
  · match l, h, hw, hn with
    | [(a0, w0, n0)], h, hw, hn =>
      simp only [List.map_cons, List.map_nil, List.cons.injEq, and_true] at h
      subst h
      exact bnd0100 k fa w0 n0 hw hn h1 h2 hk0 hk1
  · match l, h, hw, hn with
    | [(a0, w0, n0)], h, hw, hn =>
      simp only [List.map_cons, List.map_nil, List.cons.injEq, and_true] at h
      subst h
      exact bnd0010 k fa w0 n0 hw hn h1 h2 hk0 hk1
  · match l, h, hw, hn with
    | [(a0, w0, n0)], h, hw, hn =>
      simp only [List.map_cons, List.map_nil, List.cons.injEq, and_true] at h
      subst h
      exact bnd0001 k fa w0 n0 hw hn h1 h2 hk0 hk1
  · match l, h, hw, hn with
    | [(a0, w0, n0), (a1, w1, n1)], h, hw, hn =>
      simp only [List.map_cons, List.map_nil, List.cons.injEq, and_true] at h
      obtain ⟨rfl, rfl⟩ := h
      exact bnd1100 k fa w0 w1 n0 n1 hw hn h1 h2 hk0 hk1
  · match l, h, hw, hn with
    | [(a0, w0, n0), (a1, w1, n1)], h, hw, hn =>
      simp only [List.map_cons, List.map_nil, List.cons.injEq, and_true] at h
      obtain ⟨rfl, rfl⟩ := h
      exact bnd1010 k fa w0 w1 n0 n1 hw hn h1 h2 hk0 hk1
  · match l, h, hw, hn with
    | [(a0, w0, n0), (a1, w1, n1)], h, hw, hn =>
      simp only [List.map_cons, List.map_nil, List.cons.injEq, and_true] at h
      obtain ⟨rfl, rfl⟩ := h
      exact bnd1001 k fa w0 w1 n0 n1 hw hn h1 h2 hk0 hk1
  · match l, h, hw, hn with
    | [(a0, w0, n0), (a1, w1, n1)], h, hw, hn =>
      simp only [List.map_cons, List.map_nil, List.cons.injEq, and_true] at h
      obtain ⟨rfl, rfl⟩ := h
      exact bnd0110 k fa w0 w1 n0 n1 hw hn h1 h2 hk0 hk1
  · match l, h, hw, hn with
    | [(a0, w0, n0), (a1, w1, n1)], h, hw, hn =>
      simp only [List.map_cons, List.map_nil, List.cons.injEq, and_true] at h
      obtain ⟨rfl, rfl⟩ := h
      exact bnd0101 k fa w0 w1 n0 n1 hw hn h1 h2 hk0 hk1
  · match l, h, hw, hn with
    | [(a0, w0, n0), (a1, w1, n1)], h, hw, hn =>
      simp only [List.map_cons, List.map_nil, List.cons.injEq, and_true] at h
      obtain ⟨rfl, rfl⟩ := h
      exact bnd0011 k fa w0 w1 n0 n1 hw hn h1 h2 hk0 hk1
  · match l, h, hw, hn with
    | [(a0, w0, n0), (a1, w1, n1), (a2, w2, n2)], h, hw, hn =>
      simp only [List.map_cons, List.map_nil, List.cons.injEq, and_true] at h
      obtain ⟨rfl, rfl, rfl⟩ := h
      exact bnd1110 k fa w0 w1 w2 n0 n1 n2 hw hn h1 h2 hk0 hk1
  · match l, h, hw, hn with
    | [(a0, w0, n0), (a1, w1, n1), (a2, w2, n2)], h, hw, hn =>
      simp only [List.map_cons, List.map_nil, List.cons.injEq, and_true] at h
      obtain ⟨rfl, rfl, rfl⟩ := h
      exact bnd1101 k fa w0 w1 w2 n0 n1 n2 hw hn h1 h2 hk0 hk1
  · match l, h, hw, hn with
    | [(a0, w0, n0), (a1, w1, n1), (a2, w2, n2)], h, hw, hn =>
      simp only [List.map_cons, List.map_nil, List.cons.injEq, and_true] at h
      obtain ⟨rfl, rfl, rfl⟩ := h
      exact bnd1011 k fa w0 w1 w2 n0 n1 n2 hw hn h1 h2 hk0 hk1
  · match l, h, hw, hn with
    | [(a0, w0, n0), (a1, w1, n1), (a2, w2, n2)], h, hw, hn =>
      simp only [List.map_cons, List.map_nil, List.cons.injEq, and_true] at h
      obtain ⟨rfl, rfl, rfl⟩ := h
      exact bnd0111 k fa w0 w1 w2 n0 n1 n2 hw hn h1 h2 hk0 hk1
  · match l, h, hw, hn with
    | [(a0, w0, n0), (a1, w1, n1), (a2, w2, n2), (a3, w3, n3)], h, hw, hn =>
      simp only [List.map_cons, List.map_nil, List.cons.injEq, and_true] at h
      obtain ⟨rfl, rfl, rfl, rfl⟩ := h
      exact bnd1111 k fa w0 w1 w2 w3 n0 n1 n2 n3 hw hn h1 h2 hk0 hk1
open Classical in
/-- The key that Bounded hands back. -/
noncomputable def bndR (l : List KWN) (k : ByteArray) (fa : Int) : ByteArray := if h : ∃ a, BndP l k fa a then Classical.choose h else ⟨#[]⟩
theorem bndR_spec {l : List KWN} {k : ByteArray} {fa : Int} (h : ∃ a, BndP l k fa a) : BndP l k fa (bndR l k fa) := by
  unfold bndR
  rw [dif_pos h]
  exact Classical.choose_spec h
def okCells : List (ByteArray × Int) → List Value → Bool
  | [], [] => true
  | p :: l, .string a :: .int .i64 n :: r => keyIs a p.1 && decide (0 ≤ n) && decide (n ≤ 1000000) && okCells l r
  | _, _ => false
def kwnL : List (ByteArray × Int) → List Value → List KWN
  | p :: l, _ :: v :: r => (p.1, p.2, toInt v) :: kwnL l r
  | _, _ => []
theorem okCells_eq : ∀ (l : List (ByteArray × Int)) (cs : List Value), okCells l cs = true → cs = loadC (kwnL l cs) ∧ instKV (kwnL l cs) = l ∧ ∀ p ∈ kwnL l cs, 0 ≤ p.2.2 ∧ p.2.2 ≤ 1000000
  | [], [], _ => ⟨rfl, rfl, fun _ h => by cases h⟩
  | p :: l, cs, h => by
    unfold okCells at h
    split at h
    · rename_i x h1; cases h1
    · rename_i p' l' a n r h1
      cases h1
      simp only [Bool.and_eq_true, decide_eq_true_eq] at h
      obtain ⟨⟨⟨e1, e2⟩, e3⟩, e4⟩ := h
      obtain ⟨q1, q2, q3⟩ := okCells_eq l r e4
      have := keyIs_eq e1
      subst this
      refine ⟨?_, ?_, ?_⟩
      · show _ = loadC ((p.1, p.2, n) :: kwnL l r)
        simp only [loadC, List.flatMap_cons] at q1 ⊢
        rw [← q1]; rfl
      · show instKV ((p.1, p.2, n) :: kwnL l r) = _
        simp only [instKV, List.map_cons] at q2 ⊢
        rw [q2]
      · intro q hq
        rcases List.mem_cons.1 (show q ∈ (p.1, p.2, n) :: kwnL l r from hq) with rfl | hq
        · exact ⟨e2, e3⟩
        · exact q3 q hq
    · cases h
def bndC (xs cs : List Value) (k : ByteArray) (fa : Int) : Bool := xs.all isInst && isKeys ((plist xs).map Prod.fst) && (plist xs).all wtOk && okCells (plist xs) cs && decide (1000 ≤ fa) && decide (fa ≤ 1000000) && !(k.toList == ByteArray.toList ⟨#[]⟩) && Nat.ble k.size 40
open Classical in
noncomputable def bndT (xs cs : List Value) (k : ByteArray) (fa : Int) (a : ByteArray) : Bool := decide (bndC xs cs k fa = true ∧ bndR (kwnL (plist xs) cs) k fa = a)
theorem bndT_eq {xs cs : List Value} {k : ByteArray} {fa : Int} {a : ByteArray} : bndT xs cs k fa a = true ↔ (bndC xs cs k fa = true ∧ bndR (kwnL (plist xs) cs) k fa = a) := by unfold bndT; exact decide_eq_true_iff
noncomputable def spBndT (a : ByteArray) (f : FuncId) (args : Array Value) (h : AH) : Option (Bool × Value × AH) :=
  cond (Nat.beq f 16) (match args with
    | ⟨[.func (.yield 0) ⟨xs⟩ ⟨[]⟩, .slice (some ⟨b, 0, none⟩) n c, .string k, .int .i64 fa]⟩ => match h.get b with
      | some (.cells ⟨cs⟩ t (0, 0)) => some (Nat.beq t 46 && Nat.beq n xs.length && Nat.beq c xs.length && bndT xs cs k fa a, okB a, h)
      | _ => none
    | _ => none) none
theorem spBndT_ok (a : ByteArray) : SpOK (spBndT a) := by
  intro f args h v h' hs
  unfold spBndT at hs
  obtain ⟨hf, hs2⟩ := cond_some hs
  clear hs
  have := Nat.eq_of_beq_eq_true hf
  subst this
  split at hs2
  · rename_i xs b n c k fa
    split at hs2
    · rename_i cs t hg
      injection hs2 with hs
      injection hs with hb hs
      injection hs with hv hh
      subst hv hh
      simp only [Bool.and_eq_true] at hb
      obtain ⟨⟨⟨b1, b6⟩, b7⟩, hb⟩ := hb
      obtain ⟨hb, b12⟩ := bndT_eq.1 hb
      unfold bndC at hb
      simp only [Bool.and_eq_true, decide_eq_true_eq, Bool.not_eq_true'] at hb
      obtain ⟨⟨⟨⟨⟨⟨⟨b2, b3⟩, b4⟩, b5⟩, b8⟩, b9⟩, b10⟩, b11⟩ := hb
      have := Nat.eq_of_beq_eq_true b1
      subst this
      have := Nat.eq_of_beq_eq_true b6
      subst this
      have := Nat.eq_of_beq_eq_true b7
      subst this
      obtain ⟨q1, q2, q3⟩ := okCells_eq _ _ b5
      have hkk : (kwnL (plist xs) cs).map Prod.fst ∈ keys4 := by
        have e : (kwnL (plist xs) cs).map Prod.fst = (instKV (kwnL (plist xs) cs)).map Prod.fst := by simp [instKV]
        rw [e, q2]
        exact isKeys_mem b3
      have hww : ∀ p ∈ kwnL (plist xs) cs, 1 ≤ p.2.1 ∧ p.2.1 ≤ 100 := by
        intro p hp
        have : (p.1, p.2.1) ∈ instKV (kwnL (plist xs) cs) := List.mem_map.2 ⟨p, hp, rfl⟩
        rw [q2] at this
        simpa [wtOk] using List.all_eq_true.1 b4 _ this
      obtain ⟨_, hF⟩ := bndR_spec (bnd_ex _ k fa hkk hww q3 b8 b9 b10 (Nat.le_of_ble_eq_true b11))
      have hlen : (kwnL (plist xs) cs).length = xs.length := by
        have := congrArg List.length q2
        simpa [instKV, plist] using this
      rw [b12, q2, isInst_all b2, hlen, ← q1] at hF
      refine ⟨?_, Nat.le_refl _⟩
      refine FnOK.reads (r := [(b, 0)]) (bl := [(0, .cells ⟨cs⟩ 46)]) (small := [fz ⟨xs⟩, .slice (some ⟨0, 0, none⟩) xs.length xs.length, .string k, .int .i64 fa]) ?_ ?_ ?_ ?_ (hF.mono ?_) rfl
      · simp [renOk, renB, invB, eqO]
      · simp [ren2s, ren2, ren1, renB, p1]
        rfl
      · intro i o hi
        obtain ⟨rfl, rfl⟩ := look1 hi
        exact ⟨b, by simp, hg⟩
      · intro i o hi
        obtain ⟨rfl, rfl⟩ := look1 hi
        refine ⟨_, _, _, rfl, ?_⟩
        intro x hx
        have hx : x ∈ loadC (kwnL (plist xs) cs) := by rw [← q1]; simpa using hx
        obtain ⟨p, _, hp⟩ := List.mem_flatMap.1 hx
        simp only [List.mem_cons, List.not_mem_nil, or_false] at hp
        rcases hp with rfl | rfl <;> rfl
      · rintro u g ⟨h1, h2⟩
        refine ⟨h1, fun i o hi => ?_⟩
        obtain ⟨rfl, rfl⟩ := look1 hi
        exact h2
    · cases hs2
  · cases hs2
end Go.Proofs.YtbkccelgffopcaaGreatDoor
