/-
  Signers in a row: sorting and cutting numbers; the signer at a moment.
-/
import Derived.Test.YtfgjopjjajglhaaGreatDoorBase
import Derived.Test.YtfgjopjjajglhaaGreatDoorRtS
import Derived.Test.YtfgjopjjajglhaaGreatDoorRtW
import Derived.Below
import Derived.Lib.SlicesCompact
/-
  Rows that are sorted and cut (each once): plain laws, and the sub-lists of a sorted list.
-/
namespace ScopeLaw
open Go.Lib
variable {α : Type} [Inhabited α] [DecidableEq α]

/-- What is asked of an order. -/
structure Ord (le : α → α → Prop) : Prop where
  trans : ∀ x y z, le x y → le y z → le x z
  anti : ∀ x y, le x y → le y x → x = y

def below (le : α → α → Prop) (x y : α) : Prop := le x y ∧ x ≠ y

theorem cut_upto {le : α → α → Prop} (hO : Ord le) {d : Array α} (hd : ∀ i j, i < j → j < d.size → le d[i]! d[j]!) :
    ∀ m, m ≤ d.size → (∀ x, x ∈ compactUpTo d m ↔ ∃ j, j < m ∧ d[j]! = x) ∧ (compactUpTo d m).Pairwise (below le) := by
  intro m
  induction m with
  | zero =>
    intro _
    refine ⟨fun x => ⟨fun h => ?_, fun ⟨j, h, _⟩ => absurd h (Nat.not_lt_zero _)⟩, ?_⟩
    · simp [compactUpTo] at h
    · simp [compactUpTo]
  | succ m ih =>
    intro hm
    obtain ⟨i1, i2⟩ := ih (by omega)
    rw [compactUpTo_succ]
    by_cases hk : keeps d m = true
    · rw [if_pos hk]
      refine ⟨fun x => ?_, ?_⟩
      · rw [List.mem_append, i1, List.mem_singleton]
        constructor
        · rintro (⟨j, h1, h2⟩ | h)
          · exact ⟨j, by omega, h2⟩
          · exact ⟨m, by omega, h.symm⟩
        · rintro ⟨j, h1, h2⟩
          by_cases e : j = m
          · subst e; exact .inr h2.symm
          · exact .inl ⟨j, by omega, h2⟩
      · refine List.pairwise_append.2 ⟨i2, by simp, fun x hx y hy => ?_⟩
        rw [List.mem_singleton] at hy
        subst hy
        obtain ⟨j, h1, rfl⟩ := (i1 x).1 hx
        have hne : d[m]! ≠ d[m - 1]! := by
          unfold keeps at hk
          rcases of_decide_eq_true hk with q | q
          · omega
          · exact q
        have h2 : le d[m - 1]! d[m]! := hd _ _ (by omega) (by omega)
        refine ⟨hd _ _ h1 (by omega), fun e => ?_⟩
        by_cases hj : j = m - 1
        · subst hj; exact hne e.symm
        · have h3 : le d[j]! d[m - 1]! := hd _ _ (by omega) (by omega)
          rw [e] at h3
          exact hne (hO.anti _ _ h3 h2)
    · rw [if_neg hk, List.append_nil]
      refine ⟨fun x => ?_, i2⟩
      rw [i1]
      have hk2 : ¬ (m = 0 ∨ d[m]! ≠ d[m - 1]!) := fun q => hk (decide_eq_true q)
      have hm0 : m ≠ 0 := fun q => hk2 (.inl q)
      have he : d[m]! = d[m - 1]! := Classical.not_not.1 fun q => hk2 (.inr q)
      constructor
      · rintro ⟨j, h1, h2⟩; exact ⟨j, by omega, h2⟩
      · rintro ⟨j, h1, h2⟩
        by_cases e : j = m
        · subst e; exact ⟨j - 1, by omega, by rw [← he]; exact h2⟩
        · exact ⟨j, by omega, h2⟩

theorem cut_mem {le : α → α → Prop} (hO : Ord le) {l : List α} (hl : l.Pairwise le) (x : α) : x ∈ compact l ↔ x ∈ l := by
  have hd : ∀ i j, i < j → j < l.toArray.size → le l.toArray[i]! l.toArray[j]! := by
    intro i j hij hj
    have hj : j < l.length := by simpa using hj
    have := List.pairwise_iff_getElem.1 hl i j (by omega) hj hij
    simpa [show i < l.length by omega, hj] using this
  unfold compact
  rw [(cut_upto hO hd l.length (by simp)).1 x, List.mem_iff_getElem]
  constructor
  · rintro ⟨j, h1, h2⟩; exact ⟨j, h1, by simpa [h1] using h2⟩
  · rintro ⟨j, h1, h2⟩; exact ⟨j, h1, by simpa [h1] using h2⟩
theorem cut_rise {le : α → α → Prop} (hO : Ord le) {l : List α} (hl : l.Pairwise le) : (compact l).Pairwise (below le) := by
  have hd : ∀ i j, i < j → j < l.toArray.size → le l.toArray[i]! l.toArray[j]! := by
    intro i j hij hj
    have hj : j < l.length := by simpa using hj
    have := List.pairwise_iff_getElem.1 hl i j (by omega) hj hij
    simpa [show i < l.length by omega, hj] using this
  exact (cut_upto hO hd l.length (by simp)).2

/-- All sub-lists. -/
def subs {β : Type} : List β → List (List β)
  | [] => [[]]
  | x :: l => subs l ++ (subs l).map (x :: ·)
theorem nil_subs {β : Type} : ∀ l : List β, [] ∈ subs l
  | [] => by simp [subs]
  | x :: l => by simp only [subs, List.mem_append]; exact .inl (nil_subs l)
omit [Inhabited α] [DecidableEq α] in
/-- What rises within a rising list is one of its sub-lists. -/
theorem mem_subs {le : α → α → Prop} (hO : Ord le) : ∀ (F l : List α), F.Pairwise (below le) → l.Pairwise (below le) → (∀ x ∈ l, x ∈ F) → l ∈ subs F
  | [], l, _, _, hs => by
    cases l with
    | nil => simp [subs]
    | cons x l => exact absurd (hs x (by simp)) (by simp)
  | f :: F, [], _, _, _ => nil_subs _
  | f :: F, x :: l, hF, hl, hs => by
    obtain ⟨f1, f2⟩ := List.pairwise_cons.1 hF
    obtain ⟨l1, l2⟩ := List.pairwise_cons.1 hl
    rw [subs, List.mem_append]
    by_cases hx : x = f
    · subst hx
      refine .inr (List.mem_map.2 ⟨l, mem_subs hO F l f2 l2 fun y hy => ?_, rfl⟩)
      rcases List.mem_cons.1 (hs y (List.mem_cons_of_mem _ hy)) with q | q
      · subst q; exact absurd rfl (l1 y hy).2
      · exact q
    · have hxF : x ∈ F := by
        rcases List.mem_cons.1 (hs x (by simp)) with q | q
        · exact absurd q hx
        · exact q
      refine .inl (mem_subs hO F (x :: l) f2 hl fun y hy => ?_)
      rcases List.mem_cons.1 hy with q | q
      · subst q; exact hxF
      · rcases List.mem_cons.1 (hs y hy) with e | e
        · subst e
          have h1 := (l1 y q).1
          have h2 := (f1 x hxF).1
          exact absurd (hO.anti _ _ h1 h2) hx
        · exact e
end ScopeLaw
/-! Plain laws for RotationsCover: signers in a row, and the moments that they cover. -/
namespace RotLaw
structure Sg where
  id : Nat
  fr : Int
  to : Int
  un : Int
/-- Signers that begin at some moments, each till the next begins, the last a hundred. -/
def sgs (life : Int) : Nat → List Int → List Sg
  | _, [] => []
  | i, [a] => [⟨i, a, a + 100, a + 100 + life⟩]
  | i, a :: b :: r => ⟨i, a, b, a + 100 + life⟩ :: sgs life (i + 1) (b :: r)
def gaps : List Int → Prop
  | a :: b :: r => a + 1 ≤ b ∧ b ≤ a + 100 ∧ gaps (b :: r)
  | _ => True
def lastI : List Int → Int
  | [] => 0
  | [a] => a
  | _ :: b :: r => lastI (b :: r)
/-- The beginnings of a good row. -/
def Ch (A : List Int) : Prop := (∃ r, A = 0 :: r) ∧ A.length ≤ 4 ∧ gaps A
def okT (t : Int) (s : Sg) : Bool := decide (s.fr ≤ t) && decide (t < s.to)
/-- The signer at a moment: the last that fits. -/
def findS (L : List Sg) (t : Int) : Option Sg := L.reverse.find? (okT t)
theorem sgs_len (life : Int) : ∀ (A : List Int) (i : Nat), (sgs life i A).length = A.length
  | [], _ => rfl
  | [_], _ => rfl
  | a :: b :: r, i => by show (sgs life (i + 1) (b :: r)).length + 1 = _; rw [sgs_len life (b :: r) (i + 1)]; rfl
theorem sgs_in (life : Int) : ∀ (A : List Int) (i : Nat), gaps A → ∀ s ∈ sgs life i A, s.un = s.fr + 100 + life ∧ s.to ≤ s.fr + 100
  | [], _, _, s, h => by cases h
  | [a], _, _, s, h => by simp [sgs] at h; subst h; exact ⟨rfl, Int.le_refl _⟩
  | a :: b :: r, i, hg, s, h => by
    rcases List.mem_cons.1 h with rfl | h
    · exact ⟨rfl, hg.2.1⟩
    · exact sgs_in life (b :: r) (i + 1) hg.2.2 s h
theorem cover (life : Int) : ∀ (A : List Int) (i : Nat) (a : Int), gaps (a :: A) → ∀ t, a ≤ t → t < lastI (a :: A) + 100 → ∃ s ∈ sgs life i (a :: A), okT t s = true
  | [], i, a, _, t, h0, h1 => ⟨_, List.mem_singleton.2 rfl, by
    have h1 : t < a + 100 := h1
    simp [okT, h0, h1]⟩
  | b :: r, i, a, hg, t, h0, h1 => by
    by_cases h : t < b
    · exact ⟨_, List.mem_cons_self, by simp [okT, h0, h]⟩
    · obtain ⟨s, hs, hk⟩ := cover life r (i + 1) b hg.2.2 t (by omega) h1
      exact ⟨s, List.mem_cons_of_mem _ hs, hk⟩
theorem find_some {L : List Sg} {t : Int} (h : ∃ s ∈ L, okT t s = true) : ∃ s, findS L t = some s ∧ s ∈ L ∧ okT t s = true := by
  cases hf : findS L t with
  | none =>
    obtain ⟨s, h1, h2⟩ := h
    have := List.find?_eq_none.1 hf s (by simpa using h1)
    rw [h2] at this
    exact absurd rfl this
  | some s => exact ⟨s, rfl, by simpa using List.mem_of_find?_eq_some hf, List.find?_some hf⟩
/-- Within a good row each moment has a signer, who lasts long enough. -/
theorem cover_ok {life : Int} {A : List Int} (h : Ch A) {t : Int} (h0 : 0 ≤ t) (h1 : t < lastI A + 100) : ∃ s, findS (sgs life 0 A) t = some s ∧ s ∈ sgs life 0 A ∧ t + life ≤ s.un := by
  obtain ⟨⟨r, rfl⟩, _, hg⟩ := h
  obtain ⟨s, h2, h3, h4⟩ := find_some (cover life r 0 0 hg t h0 h1)
  obtain ⟨h5, h6⟩ := sgs_in life (0 :: r) 0 hg s h3
  simp only [okT, Bool.and_eq_true, decide_eq_true_eq] at h4
  exact ⟨s, h2, h3, by omega⟩
end RotLaw

namespace Go.Ev
open Go.RowKit
noncomputable def thenLS (ls g : LS) : LS := fun t h K => ls t h fun e t' h' => match e with
  | .exit i => g t' h' fun _ t2 h2 => K (.exit i) t2 h2
  | e => K e t' h'
theorem thenLS_ok {p : Nat} {P : Program} {m : Nat} {b : Code} {ls g : LS} (hl : LSpec p P m b ls) (hg : GSpec p P m g) : LSpec p P m b (thenLS ls g) := by
  intro t τ h K hr hs
  refine Tri.post ((hl t τ h _ hr hs).mono ?_)
  rintro e τ' h' ⟨t', hr', hq⟩
  cases e with
  | exit i =>
    obtain ⟨t2, τ2, h2, hW, hr2, hq2⟩ := hg t' τ' h' _ hr' hq
    exact ⟨τ2, h2, hW, t2, hr2, hq2⟩
  | normal => exact ⟨τ', h', Weak.refl _ _ _ _, t', hr', hq⟩
  | ret => exact ⟨τ', h', Weak.refl _ _ _ _, t', hr', hq⟩
end Go.Ev
namespace Go.Proofs.YtfgjopjjajglhaaGreatDoor
open Go.Ev Go.RowKit Go.Sort RotLaw

/-! Numbers -/
def iV (z : Int) : Value := .int .i64 z
def srt (zs : List Int) : List Int := zs.mergeSort fun x y => decide (x ≤ y)
def cut (zs : List Int) : List Int := Go.Lib.compact zs ++ List.replicate (zs.length - (Go.Lib.compact zs).length) 0
theorem sort_said : SortSaid Tryz.prog 16 iV srt := fun blk off cap zs w hH hb hz => Tryz.slices_Sort_int blk off cap zs w hH hb hz
theorem cut_said : CutSaid Tryz.prog 17 iV cut (fun zs => (Go.Lib.compact zs).length) := fun blk off cap zs w hH hz hc => Tryz.slices_Compact_int blk off cap zs w hH hz hc
theorem srt_len (l : List Int) : (srt l).length = l.length := by simp [srt]
theorem cut_le (l : List Int) : (Go.Lib.compact l).length ≤ l.length := by
  unfold Go.Lib.compact Go.Lib.compactUpTo
  rw [List.length_map]
  exact Nat.le_trans (List.length_filter_le _ _) (by simp)
theorem cut_len (l : List Int) : (cut l).length = l.length := by
  have := cut_le l
  simp only [cut, List.length_append, List.length_replicate]
  omega
theorem iV_one (N : Emb) (x : Int) : VRel N (iV x) (iV x) := .int _ _
theorem iV_rel (N : Emb) (x : Int) (v' : Value) (h : VRel N (iV x) v') : v' = iV x := h.inv_int
def isI : Value → Bool
  | .int .i64 _ => true
  | _ => false
theorem ints_map : ∀ {xs : List Value}, xs.all isI = true → xs = (xs.map toInt).map iV
  | [], _ => rfl
  | x :: l, h => by
    simp only [List.all_cons, Bool.and_eq_true] at h
    have h1 : x = iV (toInt x) := by
      cases x with
      | int k z => cases k <;> first | rfl | cases h.1
      | _ => cases h.1
    have h2 := ints_map h.2
    show x :: l = iV (toInt x) :: (l.map toInt).map iV
    rw [← h2, ← h1]
noncomputable def spSo (f : FuncId) (args : Array Value) (h : AH) : Option (Bool × Value × AH) :=
  cond (Nat.beq f 16) (match args with
    | ⟨[.slice (some ⟨b, 0, none⟩) n c]⟩ => match h.get b with
      | some (.cells ⟨xs⟩ t (0, 0)) => some (xs.all isI && Nat.beq xs.length n && Nat.ble n 1000, .tuple ⟨[]⟩, h.set b (.cells ⟨(srt (xs.map toInt)).map iV⟩ t (0, 0)))
      | _ => none
    | _ => none) none
theorem spSo_ok : SpOK spSo := by
  intro f args h v h' hs
  unfold spSo at hs
  obtain ⟨hf, hs2⟩ := cond_some hs
  clear hs
  have := Nat.eq_of_beq_eq_true hf
  subst this
  split at hs2
  · rename_i b n c
    split at hs2
    · rename_i xs t hg
      injection hs2 with hs
      injection hs with hb hs
      injection hs with hv hh
      subst hv hh
      simp only [Bool.and_eq_true] at hb
      obtain ⟨⟨b1, b2⟩, b3⟩ := hb
      have b2 := Nat.eq_of_beq_eq_true b2
      have b3 := Nat.le_of_ble_eq_true b3
      have hlen : (xs.map toInt).length = n := by rw [List.length_map, b2]
      have := sort_call sort_said iV_one iV_rel srt_len (H := h) (b := b) (c := c) (t := t) (zs := xs.map toInt) (by rw [← ints_map b1]; exact hg) (by omega)
      rw [hlen] at this
      exact ⟨this, Nat.le_refl _⟩
    · cases hs2
  · cases hs2
noncomputable def spCo (f : FuncId) (args : Array Value) (h : AH) : Option (Bool × Value × AH) :=
  cond (Nat.beq f 17) (match args with
    | ⟨[.slice (some ⟨b, 0, none⟩) n c]⟩ => match h.get b with
      | some (.cells ⟨xs⟩ t (0, 0)) => some (xs.all isI && Nat.beq xs.length n && Nat.ble n 1000 && Nat.ble n c, .slice (some ⟨b, 0, none⟩) (Go.Lib.compact (xs.map toInt)).length c, h.set b (.cells ⟨(cut (xs.map toInt)).map iV⟩ t (0, 0)))
      | _ => none
    | _ => none) none
theorem spCo_ok : SpOK spCo := by
  intro f args h v h' hs
  unfold spCo at hs
  obtain ⟨hf, hs2⟩ := cond_some hs
  clear hs
  have := Nat.eq_of_beq_eq_true hf
  subst this
  split at hs2
  · rename_i b n c
    split at hs2
    · rename_i xs t hg
      injection hs2 with hs
      injection hs with hb hs
      injection hs with hv hh
      subst hv hh
      simp only [Bool.and_eq_true] at hb
      obtain ⟨⟨⟨b1, b2⟩, b3⟩, b4⟩ := hb
      have b2 := Nat.eq_of_beq_eq_true b2
      have b3 := Nat.le_of_ble_eq_true b3
      have b4 := Nat.le_of_ble_eq_true b4
      have hlen : (xs.map toInt).length = n := by rw [List.length_map, b2]
      have := cut_call cut_said iV_one iV_rel cut_len cut_le (H := h) (b := b) (c := c) (t := t) (zs := xs.map toInt) (by rw [← ints_map b1]; exact hg) (by omega) (by omega)
      rw [hlen] at this
      exact ⟨this, Nat.le_refl _⟩
    · cases hs2
  · cases hs2

/-! The signer at a moment -/
def findW (zs : List Sw) (t : Int) : Option Sw := zs.reverse.find? (fits t)
theorem bwd_map (zs : List Sw) : (upto (bwd zs) zs.length).map (·.2) = zs.reverse := by
  apply List.ext_getElem
  · simp [upto]
  · intro i h1 h2
    have h3 : i < zs.length := by simpa [upto] using h1
    have h4 : zs.length - 1 - i < zs.length := by omega
    simp [upto, bwd, h4, List.getElem_reverse]
theorem upto_take {α : Type} (f : Nat → α) {k n : Nat} (h : k ≤ n) : upto f k = (upto f n).take k := by
  apply List.ext_getElem
  · simp [upto, h]
  · intro i h1 h2
    simp [upto]
theorem find_of {zs : List Sw} {t : Int} {ini : List (Int × Sw)} {last : Int × Sw} {k : Nat} (hk : k ≤ zs.length) (h1 : upto (bwd zs) k = ini ++ [last]) (h2 : ∀ p ∈ ini, fits t p.2 = false) (h3 : fits t last.2 = true) : findW zs t = some last.2 := by
  have e1 : zs.reverse = (ini.map (·.2) ++ [last.2]) ++ zs.reverse.drop k := by
    have : (upto (bwd zs) k).map (·.2) = zs.reverse.take k := by rw [upto_take _ hk, List.map_take, bwd_map]
    rw [h1, List.map_append] at this
    have q := List.take_append_drop k zs.reverse
    rw [← this] at q
    exact q.symm
  unfold findW
  rw [e1, List.append_assoc, List.find?_append]
  have e2 : (ini.map (·.2)).find? (fits t) = none := by
    rw [List.find?_eq_none]
    intro s hs
    obtain ⟨p, hp, rfl⟩ := List.mem_map.1 hs
    rw [h2 p hp]; decide
  rw [e2]
  simp [h3]
theorem ex_of {zs : List Sw} {t : Int} {s : Sw} (h : findW zs t = some s) : ∃ p ∈ upto (bwd zs) zs.length, fits t p.2 = true := by
  have h1 := List.find?_some h
  have h2 := List.mem_of_find?_eq_some h
  rw [← bwd_map] at h2
  obtain ⟨p, hp, rfl⟩ := List.mem_map.1 h2
  exact ⟨p, hp, h1⟩
theorem sw_cell {N : Emb} {s : Sw} {i : Nat} {v v' : Value} (hv : (swC s)[i]? = some v) (h : VRel N v v') : v' = v := by
  match i, hv with
  | 0, hv => cases hv; exact h.inv_string
  | 1, hv => cases hv; exact h.inv_string
  | 2, hv => cases hv; exact h.inv_int
  | 3, hv => cases hv; exact h.inv_int
  | 4, hv => cases hv; exact h.inv_int
  | i + 5, hv => simp [swC] at hv
theorem sw_self (N : Emb) (s : Sw) : VRel N (swV s) (swV s) := .agg _ _ rfl fun i v v' a b => by
  rw [a] at b
  cases b
  have a : (swC s)[i]? = some v := by simpa using a
  match i, a with
  | 0, a => cases a; exact .string _
  | 1, a => cases a; exact .string _
  | 2, a => cases a; exact .int _ _
  | 3, a => cases a; exact .int _ _
  | 4, a => cases a; exact .int _ _
  | i + 5, a => simp [swC] at a
theorem sa_call {zs : List Sw} {t : Int} {s : Sw} (hl : zs.length ≤ 1000) (hf : findW zs t = some s) (H : AH) : CallOK Tryz.prog 14 ⟨[fz ⟨zs.map swV⟩, .int .i64 t]⟩ H (.tuple ⟨[swV s, .bool true]⟩) H := by
  intro N w args' ha hr _
  obtain ⟨u0, v0, rfl, hu, hv⟩ := two_args ha
  rw [hv.inv_int]
  have hne : zs ≠ [] := fun e => by subst e; cases hf
  rcases VRel.inv_fz hu with ⟨q, a, c, rfl⟩ | ⟨w5, b, o, c, cs, hF, hsz, hc, hs, hx, rfl⟩
  · exact absurd (by simpa using q) hne
  · obtain ⟨⟨ty, fr, hw⟩, _⟩ := hr.froz b cs hF
    have hn : (Array.mk (zs.map swV)).size = zs.length := by simp
    obtain ⟨z0, hz0⟩ := List.exists_mem_of_ne_nil zs hne
    have h5 : w5 = 5 := by
      obtain ⟨i, hi, rfl⟩ := List.getElem_of_mem hz0
      have := hs i (swV zs[i]) (by simp [hi])
      rw [← this]; rfl
    subst h5
    rw [hn] at hsz hc ⊢
    have hcell : ∀ j s, zs[j]? = some s → w.rangeAt b (o + j * 5) (swC s) := by
      intro j s hj i v hv
      have hj2 : j < zs.length := (List.getElem?_eq_some_iff.1 hj).1
      have hi : i < 5 := by
        have := (List.getElem?_eq_some_iff.1 hv).1
        simpa [swC] using this
      have hlt : o + j * 5 + i < cs.size := by omega
      have hjx : (Array.mk (zs.map swV))[j]? = some (swV s) := by
        have : (zs.map swV)[j]? = some (swV s) := by rw [List.getElem?_map, hj]; rfl
        simpa using this
      have hvx : (swV s).cells[i]? = some v := by
        show ((swC s).toArray)[i]? = some v
        simpa using hv
      have h1 := sw_cell hv (hx j i (swV s) v cs[o + j * 5 + i] hjx hvx (Array.getElem?_eq_getElem hlt))
      rw [cell_eq hw, Array.getElem?_eq_getElem hlt, h1]
    have hC := Go.Proofs.YtfgjopjjajglhaaGreatDoor.sa_in Fence.wide 3 trivial trivial trivial rfl (Nat.le_refl _) b o c zs hl t w (lt_of_some hw) hcell (ex_of hf)
    refine (callsIn_wide.1 hC).mono ?_
    rintro e w' ⟨⟨ini, last, k, hk, e1, e2, e3, rfl⟩, hb⟩
    have := find_of hk e1 e2 e3
    rw [hf] at this
    cases this
    refine ⟨N, _, rfl, .tuple _ _ rfl fun i v v' a b => ?_, ext_below hr hb⟩
    match i with
    | 0 => simp at a b; subst a b; exact sw_self _ _
    | 1 => simp at a b; subst a b; exact .bool _
    | i + 2 => simp at a
/-- A signer out of its cells. -/
def unW (v : Value) : Sw := ⟨toStr (v.cells.toList.getD 0 undef), toStr (v.cells.toList.getD 1 undef), toInt (v.cells.toList.getD 2 undef), toInt (v.cells.toList.getD 3 undef), toInt (v.cells.toList.getD 4 undef)⟩
theorem unW_map (zs : List Sw) : (zs.map swV).map unW = zs := by
  rw [List.map_map]
  have : unW ∘ swV = id := by
    funext s
    rfl
  rw [this, List.map_id]
open Classical in
noncomputable def okSa (vs : List Value) (t : Int) : Bool := @decide (∃ zs : List Sw, vs = zs.map swV ∧ zs.length ≤ 1000 ∧ (findW zs t).isSome = true) (Classical.propDecidable _)
theorem okSa_iff {vs : List Value} {t : Int} : okSa vs t = true ↔ ∃ zs : List Sw, vs = zs.map swV ∧ zs.length ≤ 1000 ∧ (findW zs t).isSome = true := by unfold okSa; exact @decide_eq_true_iff _ (Classical.propDecidable _)
def saW (vs : List Value) (t : Int) : Sw := (findW (vs.map unW) t).getD sw0
noncomputable def spSa (f : FuncId) (args : Array Value) (h : AH) : Option (Bool × Value × AH) :=
  cond (Nat.beq f 14) (match args with
    | ⟨[.func (.yield 0) ⟨vs⟩ ⟨[]⟩, .int .i64 t]⟩ => some (okSa vs t, .tuple ⟨[.agg ⟨[.string (saW vs t).id, .string (saW vs t).sec, .int .i64 (saW vs t).fr, .int .i64 (saW vs t).to, .int .i64 (saW vs t).un]⟩, .bool true]⟩, h)
    | _ => none) none
theorem spSa_ok : SpOK spSa := by
  intro f args h v h' hs
  unfold spSa at hs
  obtain ⟨hf, hs2⟩ := cond_some hs
  clear hs
  have := Nat.eq_of_beq_eq_true hf
  subst this
  split at hs2
  · injection hs2 with hs
    injection hs with hb hs
    injection hs with hv hh
    subst hv hh
    rename_i vs t
    obtain ⟨zs, rfl, h1, h2⟩ := okSa_iff.1 hb
    obtain ⟨s, hs⟩ := Option.isSome_iff_exists.1 h2
    have e : saW (zs.map swV) t = s := by unfold saW; rw [unW_map, hs]; rfl
    rw [e]
    exact ⟨sa_call h1 hs h, Nat.le_refl _⟩
  · cases hs2
end Go.Proofs.YtfgjopjjajglhaaGreatDoor
