/-
  The abstract evaluator, part EvD: it runs code on a private heap; what it says holds of every world.
-/
import Derived.Test.YtklednomnpghcaaGreatDoorEvC
import Derived.Sort.Grow
import Derived.Below
import Derived.Lib.Join
import Derived.RangeFuncNested
/-
  Sorting, by a contract of the library's: in every heap (Ev6).
-/
namespace Go.Ev
open Go.RowKit

/-- More memory lies there, and a draw was made. -/
theorem ext_grow {P : Program} {N : Emb} {h : AH} {w w' : World} (hr : HRel P N h w) (hs : w.heap.size ≤ w'.heap.size) (hk : ∀ b, b < w.heap.size → w'.heap[b]? = w.heap[b]?) (ht : w'.tape = w.tape) (hos : w'.os = w.os) (hout : w'.output = w.output) : Ext P N h w N h w' where
  le := Emb.le_refl N
  new := fun i e a b => by rw [a] at b; cases b
  newF := fun i e a b => by rw [a] at b; cases b
  rel := ⟨fun i o hi => by
      obtain ⟨e, o', h1, h2, h3⟩ := hr.here i o hi
      exact ⟨e, o', h1, by rw [hk _ (lt_of_some h2)]; exact h2, h3⟩, hr.inj, hr.ids, fun b c hb => by
      obtain ⟨⟨t, fr, q1⟩, q2⟩ := hr.froz b c hb
      exact ⟨⟨t, fr, by rw [hk _ (lt_of_some q1)]; exact q1⟩, q2⟩, hr.req⟩
  size := hs
  keep := fun b hb _ => hk b hb
  tape := ht
  os := hos
  output := hout
  alive := fun i o hi => .inl ⟨o, hi⟩
  nxt := Nat.le_refl _
  low := Nat.le_refl _
  old := fun _ _ _ => rfl

section
variable {α : Type} [Inhabited α] {P : Program} {f : FuncId} {enc : α → Value} {srt : List α → List α}

/-- A sort in place, as the library tells it. -/
def SortSaid (P : Program) (f : FuncId) (enc : α → Value) (srt : List α → List α) : Prop :=
  ∀ (blk off cap : Nat) (zs : List α) (w : World), Sort.Holds enc w blk off zs.toArray → blk < w.heap.size → zs.length < 4611686018427387904 →
    Calls P f #[.slice (some ⟨blk, off, none⟩) zs.length cap] w fun e w' => e = .returned (.tuple #[]) ∧ ∃ n os, w' = Sort.grow (Sort.putRow enc (Sort.ahead w n) blk off (srt zs).toArray) os
/-- A row that is written in place and cut, as the library tells it. -/
def CutSaid (P : Program) (f : FuncId) (enc : α → Value) (cut : List α → List α) (len : List α → Nat) : Prop :=
  ∀ (blk off cap : Nat) (zs : List α) (w : World), Sort.Holds enc w blk off zs.toArray → zs.length ≤ 9223372036854775807 → zs.length ≤ cap →
    Calls P f #[.slice (some ⟨blk, off, none⟩) zs.length cap] w fun e w' => e = .returned (.slice (some ⟨blk, off, none⟩) (len zs) cap) ∧ ∃ n, w' = Sort.putRow enc (Sort.ahead w n) blk off (cut zs).toArray

theorem row_ext (hone : ∀ (N : Emb) (x : α), VRel N (enc x) (enc x)) (hrel : ∀ (N : Emb) (x : α) v', VRel N (enc x) v' → v' = enc x)
    {N : Emb} {w : World} {H : AH} {b c : Nat} {t : TypeId} {zs out : List α} {v0 : Value} (hlen : out.length = zs.length) (hb : H.get b = some (.cells ⟨zs.map enc⟩ t (0, 0))) (hv : VRel N (.slice (some ⟨b, 0, none⟩) zs.length c) v0) (hr : HRel P N H w) :
    ∃ blk off cap, v0 = .slice (some ⟨blk, off, none⟩) zs.length cap ∧ c ≤ cap ∧ Sort.Holds enc w blk off zs.toArray ∧ blk < w.heap.size ∧
      (∀ k os, Ext P N H w N (H.set b (.cells ⟨out.map enc⟩ t (0, 0))) (Sort.grow (Sort.putRow enc (Sort.ahead w k) blk off out.toArray) os)) ∧
      ∀ m, m ≤ zs.length → VRel N (.slice (some ⟨b, 0, none⟩) m c) (.slice (some ⟨blk, off, none⟩) m cap) := by
  cases hv with
  | slice _ _ _ _ e o' c' he hcc hzz ho =>
  have he : N b = some e := he
  obtain ⟨d, fr', hw, hsz, hd, hs1, hs2, hrow, hf1, hf2, hf3⟩ := hr.row hb he
  have hd : e.d + zs.length ≤ d.size := by
    have h1 : e.d + (Array.mk (zs.map enc)).size ≤ e.z := hd
    have h2 : (Array.mk (zs.map enc)).size = zs.length := by simp
    omega
  have hcell : ∀ j (hj : j < zs.length), d[e.d + j]? = some (enc zs[j]) := by
    intro j hj
    obtain ⟨v', h1, h2⟩ := hrow j (enc zs[j]) (by simp [hj])
    rw [h1, hrel N _ _ h2]
  have hfz : fr'.1 = fr'.2 := hf1 rfl
  have hoff : zs ≠ [] → o' = e.d := by
    intro hne
    rcases ho with ⟨h1, _⟩ | h1
    · exact (hne (List.length_eq_zero_iff.1 (by omega))).elim
    · simpa using h1
  refine ⟨e.r, o', c', rfl, hcc, ?_, lt_of_some hw, ?_, ?_⟩
  · intro j hj
    have hj : j < zs.length := by simpa using hj
    have ho2 := hoff (by intro q; rw [q] at hj; simp at hj)
    subst ho2
    refine ⟨?_, ?_⟩
    · rw [cell_eq hw, hcell j hj]
      congr 1
      congr 1
      rw [getElem!_pos zs.toArray j (by simpa using hj)]
      simp
    · rw [frozen_eq hw]
      simp
      omega
  · intro k os
    let w1 : World := Sort.putRow enc (Sort.ahead w k) e.r o' out.toArray
    have hw1 : w1.heap.size = w.heap.size ∧ w1.tape = w.tape ∧ w1.os = w.os ∧ w1.output = w.output ∧ (∀ j, j ≠ e.r → w1.heap[j]? = w.heap[j]?) ∧ w1.heap[e.r]? = some (.cells (Sort.putCells enc o' out.toArray d) t fr') := by
      refine ⟨?_, rfl, rfl, rfl, ?_, ?_⟩
      · simp [w1, Sort.putRow, Sort.mapBlock, Sort.ahead]
      · intro j hj
        show (w.heap.modify e.r (Sort.onCells (Sort.putCells enc o' out.toArray)))[j]? = _
        rw [Array.getElem?_modify, if_neg (Ne.symm hj)]
      · show (w.heap.modify e.r (Sort.onCells (Sort.putCells enc o' out.toArray)))[e.r]? = _
        rw [Array.getElem?_modify, if_pos rfl, hw]
        rfl
    obtain ⟨q1, q2, q3, q4, q5, q6⟩ := hw1
    have E1 : Ext P N H w N (H.set b (.cells ⟨out.map enc⟩ t (0, 0))) w1 := by
      refine ext_set hr hb he (o' := .cells (Sort.putCells enc o' out.toArray d) t fr') ?_ q1 q6 q5 q2 q3 q4
      have hps : (Sort.putCells enc o' out.toArray d).size = d.size := by simp [Sort.putCells]
      refine ⟨_, fr', rfl, by rw [hps]; exact hsz, ?_, hs1, hs2, ?_, hf1, ?_, ?_⟩
      · have : (Array.mk (out.map enc)).size = zs.length := by simp [hlen]
        omega
      · intro i v hi
        have hi2 : i < out.length := by
          rcases Nat.lt_or_ge i out.length with q | q
          · exact q
          · simp [q] at hi
        have hv : v = enc out[i] := by simpa [hi2] using hi.symm
        have ho2 := hoff (by intro q; rw [q] at hlen; simp at hlen; rw [hlen] at hi2; simp at hi2)
        rw [hv]
        subst ho2
        refine ⟨enc out[i], ?_, hone N _⟩
        have hlt : e.d + i < d.size := by omega
        simp only [Sort.putCells, Array.getElem?_mapIdx, Array.getElem?_eq_getElem hlt, Option.map_some]
        rw [if_pos (by simp; omega)]
        congr 2
        rw [Nat.add_sub_cancel_left, getElem!_pos out.toArray i (by simpa using hi2)]
        simp
      · have e1 : (Array.mk (out.map enc)).size = (Array.mk (zs.map enc)).size := by simp [hlen]
        rw [e1]
        exact hf2
      · have e1 : (Array.mk (out.map enc)).size = (Array.mk (zs.map enc)).size := by simp [hlen]
        rw [e1]
        exact hf3
    have E2 : Ext P N (H.set b (.cells ⟨out.map enc⟩ t (0, 0))) w1 N (H.set b (.cells ⟨out.map enc⟩ t (0, 0))) (Sort.grow w1 os) := by
      refine ext_grow E1.rel (by simp [Sort.grow]) (fun j hj => ?_) rfl rfl rfl
      simp only [Sort.grow]
      rw [Array.getElem?_append_left hj]
    exact E1.trans E2 (fun i h1 h2 => absurd h1 (Nat.not_le_of_lt h2))
  · intro m hm
    refine .slice _ _ _ _ e o' c' he hcc hzz ?_
    rcases ho with ⟨h1, h2, h3⟩ | h1
    · exact .inl ⟨by omega, h2, h3⟩
    · exact .inr h1

theorem one_arg {N : Emb} {v : Value} {args' : Array Value} (h : CRel N ⟨[v]⟩ args') : ∃ v0, args' = #[v0] ∧ VRel N v v0 := by
  have hA : args'.size = 1 := by simpa using h.1.symm
  have e : args' = #[args'[0]] := by
    apply Array.ext
    · simpa using hA
    · intro i h1 h2
      have : i = 0 := by omega
      subst this
      rfl
  exact ⟨args'[0], e, h.2 0 v args'[0] (by simp) (by simp)⟩

/-- Sorting in place: its contract, in every heap. -/
theorem sort_call (hS : SortSaid P f enc srt) (hone : ∀ (N : Emb) (x : α), VRel N (enc x) (enc x)) (hrel : ∀ (N : Emb) (x : α) v', VRel N (enc x) v' → v' = enc x) (hlen : ∀ l, (srt l).length = l.length)
    {H : AH} {b c : Nat} {t : TypeId} {zs : List α} (hb : H.get b = some (.cells ⟨zs.map enc⟩ t (0, 0))) (hz : zs.length < 4611686018427387904) :
    CallOK P f ⟨[.slice (some ⟨b, 0, none⟩) zs.length c]⟩ H (.tuple ⟨[]⟩) (H.set b (.cells ⟨(srt zs).map enc⟩ t (0, 0))) := by
  intro N w args' hargs hr _
  obtain ⟨v0, rfl, hv⟩ := one_arg hargs
  obtain ⟨blk, off, cap, rfl, _, hH, hlt, hE, _⟩ := row_ext hone hrel (hlen zs) hb hv hr
  refine (hS blk off cap zs w hH hlt hz).mono ?_
  rintro en w' ⟨rfl, k, os, rfl⟩
  exact ⟨N, .tuple #[], rfl, .tuple _ _ rfl (fun i x x' a => by simp at a), hE k os⟩
/-- Writing a row in place and cutting it: its contract, in every heap. -/
theorem cut_call {cut : List α → List α} {len : List α → Nat} (hS : CutSaid P f enc cut len) (hone : ∀ (N : Emb) (x : α), VRel N (enc x) (enc x)) (hrel : ∀ (N : Emb) (x : α) v', VRel N (enc x) v' → v' = enc x) (hlen : ∀ l, (cut l).length = l.length) (hle : ∀ l, len l ≤ l.length)
    {H : AH} {b c : Nat} {t : TypeId} {zs : List α} (hb : H.get b = some (.cells ⟨zs.map enc⟩ t (0, 0))) (hz : zs.length ≤ 9223372036854775807) (hc : zs.length ≤ c) :
    CallOK P f ⟨[.slice (some ⟨b, 0, none⟩) zs.length c]⟩ H (.slice (some ⟨b, 0, none⟩) (len zs) c) (H.set b (.cells ⟨(cut zs).map enc⟩ t (0, 0))) := by
  intro N w args' hargs hr _
  obtain ⟨v0, rfl, hv⟩ := one_arg hargs
  obtain ⟨blk, off, cap, rfl, hcc, hH, hlt, hE, hV⟩ := row_ext hone hrel (hlen zs) hb hv hr
  refine (hS blk off cap zs w hH hz (Nat.le_trans hc hcc)).mono ?_
  rintro en w' ⟨rfl, k, rfl⟩
  have := hE k #[]
  rw [Sort.grow_empty] at this
  exact ⟨N, _, rfl, hV _ (hle zs), this⟩
end
end Go.Ev

/-
  Slices within structs, frozen; loops that are told and then told in other words; nil as the empty frozen list (Ev7).
-/
namespace Go.Ev
open Go.RowKit

/-- One slice, told in other words. -/
def frz1 (b n c : Nat) (x v : Value) : Value :=
  match v with
  | .slice (some ⟨b', 0, none⟩) n' c' => cond (Nat.beq b' b && Nat.beq n' n && Nat.beq c' c) x v
  | v => v
/-- The same within a struct. -/
def frz2 (b n c : Nat) (x v : Value) : Value :=
  match v with
  | .agg ⟨cs⟩ => .agg ⟨cs.map (frz1 b n c x)⟩
  | .tuple ⟨cs⟩ => .tuple ⟨cs.map (frz1 b n c x)⟩
  | v => frz1 b n c x v
theorem frz1_rel {N M : Emb} (hle : Emb.le N M) {b n c : Nat} {x : Value} (hk : ∀ v', VRel N (.slice (some ⟨b, 0, none⟩) n c) v' → VRel M x v') {v v' : Value} (h : VRel N v v') : VRel M (frz1 b n c x v) v' := by
  unfold frz1
  split
  · rename_i b' n' c'
    cases hb : (Nat.beq b' b && Nat.beq n' n && Nat.beq c' c) with
    | false => exact h.mono hle
    | true =>
      simp only [Bool.and_eq_true] at hb
      rw [Nat.eq_of_beq_eq_true hb.1.1, Nat.eq_of_beq_eq_true hb.1.2, Nat.eq_of_beq_eq_true hb.2] at h
      exact hk _ h
  · exact h.mono hle
theorem frz2_rel {N M : Emb} (hle : Emb.le N M) {b n c : Nat} {x : Value} (hk : ∀ v', VRel N (.slice (some ⟨b, 0, none⟩) n c) v' → VRel M x v') {v v' : Value} (h : VRel N v v') : VRel M (frz2 b n c x v) v' := by
  unfold frz2
  split
  · rename_i cs
    cases h with
    | agg _ c' hs hr =>
      refine .agg _ c' (by simpa using hs) fun i u u' a q => ?_
      have a : (cs.map (frz1 b n c x))[i]? = some u := by simpa using a
      rw [List.getElem?_map] at a
      obtain ⟨w, hw, rfl⟩ := Option.map_eq_some_iff.1 a
      exact frz1_rel hle hk (hr i w u' (by simpa using hw) q)
  · rename_i cs
    cases h with
    | tuple _ c' hs hr =>
      refine .tuple _ c' (by simpa using hs) fun i u u' a q => ?_
      have a : (cs.map (frz1 b n c x))[i]? = some u := by simpa using a
      rw [List.getElem?_map] at a
      obtain ⟨w, hw, rfl⟩ := Option.map_eq_some_iff.1 a
      exact frz1_rel hle hk (hr i w u' (by simpa using hw) q)
  · exact frz1_rel hle hk h

/-- A block is frozen, also where structs hold the slice. -/
theorem Weak.freezeIn {p : Nat} {P : Program} {τ τ2 : Array Value} {h : AH} (b : Nat) {c : Array Value} {t : TypeId} {fr : Nat × Nat} {n cap : Nat} (s : Nat) (xs : Array Value) (hb : h.get b = some (.cells c t fr)) (hp : ∀ v ∈ c.toList, p1 v = true)
    (hn : xs.size = n) (hnc : n ≤ cap) (hle : n * s ≤ c.size) (hs : ∀ (i : Nat) x, xs[i]? = some x → x.cells.size = s) (hx : ∀ (i j : Nat) x v, xs[i]? = some x → x.cells[j]? = some v → c[i * s + j]? = some v)
    (hsz : τ2.size = τ.size) (hτ2 : ∀ i : Nat, τ2[i]? = τ[i]? ∨ ∃ v, τ[i]? = some v ∧ τ2[i]? = some (frz2 b n cap (fz xs) v)) : Weak p P τ h τ2 (h.del b) := by
  intro N w tmps hτ hH hf
  obtain ⟨e, o', he, hw, ho⟩ := hH.here b _ hb
  obtain ⟨c', fr', rfl, hc2, hc3, hc4, hc5, hc6, hc7⟩ := ho
  have hFn : N.F e.r = none := by
    cases hq : N.F e.r with
    | none => rfl
    | some q => exact ((hH.froz _ _ hq).2 b _ e hb he rfl).elim
  let M : Emb := ⟨N.m, fun k => if k = e.r then some c' else N.F k⟩
  have hM : ∀ k d, N.F k = some d → M.F k = some d := fun k d hk => by
    show (if k = e.r then some c' else N.F k) = some d
    have : k ≠ e.r := fun q => by rw [q, hFn] at hk; cases hk
    rw [if_neg this]; exact hk
  have hMe : M.F e.r = some c' := by show (if e.r = e.r then some c' else N.F e.r) = _; rw [if_pos rfl]
  have hle' : Emb.le N M := ⟨fun _ _ x => x, hM⟩
  have hkey : ∀ v', VRel N (.slice (some ⟨b, 0, none⟩) n cap) v' → VRel M (fz xs) v' := by
    intro v' hv
    obtain ⟨f, o1, c1, hsp, hfb, hcc, hzz, hoo, rfl⟩ := hv.inv_slice
    simp only at hfb hoo
    rw [he] at hfb
    cases hfb
    rcases Nat.eq_zero_or_pos n with h0 | h0
    · subst h0
      have : xs = #[] := by simpa using hn
      subst this
      exact .fz0 _ _
    · have ho1 : o1 = e.d := by rcases hoo with ⟨q1, _⟩ | q1 <;> omega
      subst hn
      rw [ho1]
      refine .fz xs s e.r e.d c1 c' hMe ?_ ?_ hs ?_
      · omega
      · omega
      · intro k j x v v' hk hj hv'
        have hcv := hx k j x v hk hj
        obtain ⟨u, hu1, hu2⟩ := hc6 _ v hcv
        have : e.d + k * s + j = e.d + (k * s + j) := by omega
        rw [this, hu1] at hv'
        cases hv'
        exact p1_rel (N := N) (M := M.drop) hM (hp v (mem_of_getElem? hcv)) hu2
  have hget : ∀ i o, (h.del b).get i = some o → i ≠ b ∧ h.get i = some o := fun i o hi => by
    by_cases hib : i = b
    · subst hib
      have : (h.del i).get i = none := look_delB_self h.blocks
      rw [this] at hi; cases hi
    · exact ⟨hib, by unfold AH.get; rw [← look_delB_ne hib h.blocks]; exact hi⟩
  refine ⟨M, ?_, ⟨?_, ?_, ?_, ?_, hH.req.le hM⟩, ⟨hf.1, fun i hi => hf.2 i hi⟩, ⟨hM, ?_, ?_, Nat.le_refl _, fun _ _ _ => rfl, rfl, rfl, rfl, fun _ _ => rfl⟩⟩
  · refine ⟨by rw [hsz]; exact hτ.1, fun i v v' a q => ?_⟩
    rcases hτ2 i with h1 | ⟨u, h1, h2⟩
    · rw [h1] at a
      exact (hτ.2 i v v' a q).mono hle'
    · rw [h2] at a
      cases a
      exact frz2_rel hle' hkey (hτ.2 i _ v' h1 q)
  · intro i o hi
    obtain ⟨h1, h2⟩ := hget i o hi
    obtain ⟨f, q, k1, k2, k3⟩ := hH.here i o h2
    exact ⟨f, q, k1, k2, k3.mono hle'⟩
  · intro i j o p f g hi hj hf' hg hfg
    exact hH.inj i j o p f g (hget i o hi).2 (hget j p hj).2 hf' hg hfg
  · intro i o hi
    exact hH.ids i o (hget i o hi).2
  · intro k d hk
    have hk' : (if k = e.r then some c' else N.F k) = some d := hk
    by_cases hke : k = e.r
    · rw [if_pos hke] at hk'
      cases hk'
      subst hke
      exact ⟨⟨t, fr', hw⟩, fun i o f hi hf' hr' => (hget i o hi).1 (hH.inj i b o _ f e (hget i o hi).2 hb hf' he hr')⟩
    · rw [if_neg hke] at hk'
      exact ⟨(hH.froz k d hk').1, fun i o f hi hf' => (hH.froz k d hk').2 i o f (hget i o hi).2 hf'⟩
  · intro k d hk hn0
    have hk' : (if k = e.r then some c' else N.F k) = some d := hk
    by_cases hke : k = e.r
    · exact .inr ⟨b, _, e, hb, he, hke.symm⟩
    · rw [if_neg hke, hn0] at hk'; cases hk'
  · rintro k ⟨i, o, f, hi, hf', rfl⟩
    exact .inr ⟨i, o, f, (hget i o hi).2, hf', rfl⟩

end Go.Ev

/-
  Slices that lie in blocks, frozen there; nil as the empty frozen list there (Ev8).
-/
namespace Go.Ev
open Go.RowKit

/-- A cell of a block, told in other words. -/
theorem HRel.cell {P : Program} {N : Emb} {h : AH} {w : World} (hH : HRel P N h w) {g k : Nat} {ds : List Value} {t : TypeId} {fr : Nat × Nat} {v v2 : Value} (hg : h.get g = some (.cells ⟨ds⟩ t fr)) (hv : ds[k]? = some v)
    (hk : ∀ v', VRel N v v' → VRel N v2 v') : HRel P N (h.set g (.cells ⟨ds.set k v2⟩ t fr)) w := by
  have hget : ∀ i, i ≠ g → (h.set g (.cells ⟨ds.set k v2⟩ t fr)).get i = h.get i := fun i hi => look_setB_ne hi _ h.blocks
  have hgets : (h.set g (.cells ⟨ds.set k v2⟩ t fr)).get g = some (.cells ⟨ds.set k v2⟩ t fr) := look_setB_self hg
  have back : ∀ i o, (h.set g (.cells ⟨ds.set k v2⟩ t fr)).get i = some o → ∃ o2, h.get i = some o2 := fun i o hi => by
    by_cases q : i = g
    · subst q; exact ⟨_, hg⟩
    · exact ⟨o, by rw [← hget i q]; exact hi⟩
  refine ⟨?_, ?_, ?_, ?_, hH.req⟩
  · intro i o hi
    by_cases q : i = g
    · subst q
      rw [hgets] at hi
      cases hi
      obtain ⟨e, o', he, hw, c', fr', rfl, h2, h3, h4, h5, h6, h7⟩ := hH.here i _ hg
      have hlen : (ds.set k v2).length = ds.length := List.length_set
      refine ⟨e, _, he, hw, c', fr', rfl, h2, by simpa using h3, h4, h5, fun j u hu => ?_, by simpa using h7⟩
      have hu2 : (ds.set k v2)[j]? = some u := by simpa using hu
      clear hu
      by_cases hkj : k = j
      · subst hkj
        have hlt : k < ds.length := by
          rcases Nat.lt_or_ge k ds.length with q | q
          · exact q
          · rw [List.getElem?_eq_none q] at hv; cases hv
        rw [List.getElem?_set_self hlt] at hu2
        cases hu2
        obtain ⟨v', q1, q2⟩ := h6 k v (by simpa using hv)
        exact ⟨v', q1, hk _ q2⟩
      · rw [List.getElem?_set_ne hkj] at hu2
        exact h6 j u (by simpa using hu2)
    · rw [hget i q] at hi
      exact hH.here i o hi
  · intro i j o p f e hi hj hf he hfe
    obtain ⟨o2, q1⟩ := back i o hi
    obtain ⟨p2, q2⟩ := back j p hj
    exact hH.inj i j _ _ f e q1 q2 hf he hfe
  · intro i o hi
    obtain ⟨o2, q1⟩ := back i o hi
    exact hH.ids i _ q1
  · intro b c hb
    refine ⟨(hH.froz b c hb).1, fun i o e hi he => ?_⟩
    obtain ⟨o2, q1⟩ := back i o hi
    exact (hH.froz b c hb).2 i _ e q1 he

theorem owned_set {N : Emb} {h : AH} {g : Nat} {o o2 : Obj} (hg : h.get g = some o) {b : Nat} (hb : Owned N (h.set g o2) b) : Owned N h b := by
  obtain ⟨i, q, f, h1, h2, h3⟩ := hb
  by_cases e : i = g
  · subst e; exact ⟨i, _, f, hg, h2, h3⟩
  · exact ⟨i, q, f, by rw [← show (h.set g o2).get i = h.get i from look_setB_ne e o2 h.blocks]; exact h1, h2, h3⟩

theorem Weak.cell {p : Nat} {P : Program} {τ : Array Value} {h : AH} {g k : Nat} {ds : List Value} {t : TypeId} {fr : Nat × Nat} {v v2 : Value} (hg : h.get g = some (.cells ⟨ds⟩ t fr)) (hv : ds[k]? = some v)
    (hk : ∀ N v', VRel N v v' → VRel N v2 v') : Weak p P τ h τ (h.set g (.cells ⟨ds.set k v2⟩ t fr)) := by
  intro N w tmps hτ hH hf
  refine ⟨N, hτ, hH.cell hg hv (hk N), ⟨hf.1, fun i hi => hf.2 i hi⟩, ⟨fun _ _ x => x, fun _ _ x y => (by rw [x] at y; cases y), fun b x => .inr (owned_set hg x), Nat.le_refl _, fun _ _ _ => rfl, rfl, rfl, rfl, fun _ _ => rfl⟩⟩

/-- A block is frozen where another block holds the slice. -/
theorem Weak.freezeAt {p : Nat} {P : Program} {τ : Array Value} {h : AH} (b : Nat) {c : Array Value} {t : TypeId} {fr : Nat × Nat} {n cap : Nat} (s : Nat) (xs : Array Value) (hb : h.get b = some (.cells c t fr)) (hp : ∀ v ∈ c.toList, p1 v = true)
    (hn : xs.size = n) (hnc : n ≤ cap) (hle : n * s ≤ c.size) (hs : ∀ (i : Nat) x, xs[i]? = some x → x.cells.size = s) (hx : ∀ (i j : Nat) x v, xs[i]? = some x → x.cells[j]? = some v → c[i * s + j]? = some v)
    {g k : Nat} {ds : List Value} {t2 : TypeId} {fr2 : Nat × Nat} (hgb : g ≠ b) (hg : h.get g = some (.cells ⟨ds⟩ t2 fr2)) (hk : ds[k]? = some (Value.slice (some ⟨b, 0, none⟩) n cap)) :
    Weak p P τ h τ ((h.del b).set g (.cells ⟨ds.set k (fz xs)⟩ t2 fr2)) := by
  intro N w tmps hτ hH hf
  obtain ⟨e, o', he, hw, ho⟩ := hH.here b _ hb
  obtain ⟨c', fr', rfl, hc2, hc3, hc4, hc5, hc6, hc7⟩ := ho
  have hFn : N.F e.r = none := by
    cases hq : N.F e.r with
    | none => rfl
    | some q => exact ((hH.froz _ _ hq).2 b _ e hb he rfl).elim
  let M : Emb := ⟨N.m, fun k => if k = e.r then some c' else N.F k⟩
  have hM : ∀ k d, N.F k = some d → M.F k = some d := fun k d hk => by
    show (if k = e.r then some c' else N.F k) = some d
    have : k ≠ e.r := fun q => by rw [q, hFn] at hk; cases hk
    rw [if_neg this]; exact hk
  have hMe : M.F e.r = some c' := by show (if e.r = e.r then some c' else N.F e.r) = _; rw [if_pos rfl]
  have hle' : Emb.le N M := ⟨fun _ _ x => x, hM⟩
  have hkey : ∀ v', VRel M (.slice (some ⟨b, 0, none⟩) n cap) v' → VRel M (fz xs) v' := by
    intro v' hv
    obtain ⟨f, o1, c1, hsp, hfb, hcc, hzz, hoo, rfl⟩ := hv.inv_slice
    simp only at hfb hoo
    have hfb : N b = some f := hfb
    rw [he] at hfb
    cases hfb
    rcases Nat.eq_zero_or_pos n with h0 | h0
    · subst h0
      have : xs = #[] := by simpa using hn
      subst this
      exact .fz0 _ _
    · have ho1 : o1 = e.d := by rcases hoo with ⟨q1, _⟩ | q1 <;> omega
      subst hn
      rw [ho1]
      refine .fz xs s e.r e.d c1 c' hMe ?_ ?_ hs ?_
      · omega
      · omega
      · intro k j x v v' hk hj hv'
        have hcv := hx k j x v hk hj
        obtain ⟨u, hu1, hu2⟩ := hc6 _ v hcv
        have : e.d + k * s + j = e.d + (k * s + j) := by omega
        rw [this, hu1] at hv'
        cases hv'
        exact p1_rel (N := N) (M := M.drop) hM (hp v (mem_of_getElem? hcv)) hu2
  have hget : ∀ i o, (h.del b).get i = some o → i ≠ b ∧ h.get i = some o := fun i o hi => by
    by_cases hib : i = b
    · subst hib
      have : (h.del i).get i = none := look_delB_self h.blocks
      rw [this] at hi; cases hi
    · exact ⟨hib, by unfold AH.get; rw [← look_delB_ne hib h.blocks]; exact hi⟩
  have hgd : (h.del b).get g = some (.cells ⟨ds⟩ t2 fr2) := (look_delB_ne hgb h.blocks).trans hg
  have hHM : HRel P M (h.del b) w := by
    refine ⟨?_, ?_, ?_, ?_, hH.req.le hM⟩
    · intro i o hi
      obtain ⟨h1, h2⟩ := hget i o hi
      obtain ⟨f, q, k1, k2, k3⟩ := hH.here i o h2
      exact ⟨f, q, k1, k2, k3.mono hle'⟩
    · intro i j o p f g hi hj hf' hg hfg
      exact hH.inj i j o p f g (hget i o hi).2 (hget j p hj).2 hf' hg hfg
    · intro i o hi
      exact hH.ids i o (hget i o hi).2
    · intro k d hk
      have hk' : (if k = e.r then some c' else N.F k) = some d := hk
      by_cases hke : k = e.r
      · rw [if_pos hke] at hk'
        cases hk'
        subst hke
        exact ⟨⟨t, fr', hw⟩, fun i o f hi hf' hr' => (hget i o hi).1 (hH.inj i b o _ f e (hget i o hi).2 hb hf' he hr')⟩
      · rw [if_neg hke] at hk'
        exact ⟨(hH.froz k d hk').1, fun i o f hi hf' => (hH.froz k d hk').2 i o f (hget i o hi).2 hf'⟩
  refine ⟨M, ⟨hτ.1, fun i v v' a q => (hτ.2 i v v' a q).mono hle'⟩, hHM.cell hgd hk hkey, ⟨hf.1, fun i hi => hf.2 i hi⟩, ⟨hM, ?_, ?_, Nat.le_refl _, fun _ _ _ => rfl, rfl, rfl, rfl, fun _ _ => rfl⟩⟩
  · intro k d hk hn0
    have hk' : (if k = e.r then some c' else N.F k) = some d := hk
    by_cases hke : k = e.r
    · exact .inr ⟨b, _, e, hb, he, hke.symm⟩
    · rw [if_neg hke, hn0] at hk'; cases hk'
  · intro k hk
    obtain ⟨i, o, f, hi, hf', rfl⟩ := owned_set hgd hk
    exact .inr ⟨i, o, f, (hget i o hi).2, hf', rfl⟩

/-- The block that a pointer or a slice points to. -/
def baseOf : Value → Option (Nat × Nat)
  | .pointer (some ⟨g, off, none⟩) => some (g, off)
  | .slice (some ⟨g, off, none⟩) _ _ => some (g, off)
  | _ => none
/-- The slice in a cell of the block that a slot points to is frozen. -/
noncomputable def freezeH (s j : Nat) (ag : Bool) (w : Nat) : LS := fun t h K =>
  match baseOf (t.get s) with
  | some (g, off) => match h.get g with
    | some (.cells ds dt dfr) => match ds.toList[Nat.add off j]? with
      | some (.slice (some ⟨b, 0, none⟩) n c) => match h.get b with
        | some (.cells cs _ _) => cond (not (Nat.beq g b) && cs.toList.all p1 && Nat.ble n c && Nat.ble (n * w) cs.size && cond ag (Nat.blt 0 w) (Nat.beq w 1))
          (K .normal t ((h.del b).set g (.cells ⟨ds.toList.set (Nat.add off j) (fz ⟨chunk ag w n cs.toList⟩)⟩ dt dfr))) False
        | _ => False
      | some (.slice none 0 _) => K .normal t (h.set g (.cells ⟨ds.toList.set (Nat.add off j) (fz ⟨[]⟩)⟩ dt dfr))
      | _ => False
    | _ => False
  | _ => False
theorem freezeH_ok (p : Nat) (P : Program) (m s j : Nat) (ag : Bool) (w : Nat) : GSpec p P m (freezeH s j ag w) := by
  intro t τ h K hr hs
  unfold freezeH at hs
  split at hs
  · rename_i g off hsl
    split at hs
    · rename_i ds dt dfr hg
      have hg : h.get g = some (.cells ⟨ds.toList⟩ dt dfr) := hg
      split at hs
      · rename_i b n c hc
        split at hs
        · rename_i cs ty fr hb
          obtain ⟨q, hs⟩ := cond_need hs
          simp only [Bool.and_eq_true, Bool.not_eq_true'] at q
          obtain ⟨⟨⟨⟨k1, k2⟩, k3⟩, k4⟩, k5⟩ := q
          have hp : ∀ v ∈ cs.toList, p1 v = true := List.all_eq_true.1 k2
          have hle : n * w ≤ cs.toList.length := Nat.le_of_ble_eq_true k4
          have hgb : g ≠ b := fun e => by subst e; rw [Nat.beq_refl] at k1; cases k1
          refine ⟨_, τ, _, ?_, hr, hs⟩
          refine Weak.freezeAt (n := n) (cap := c) b w ⟨chunk ag w n cs.toList⟩ hb hp (by simp [chunk_len]) (Nat.le_of_ble_eq_true k3) (by simpa using hle) ?_ ?_ hgb hg hc
          · intro i x hx
            exact (chunk_get ag w k5 n cs.toList hp hle i x (by simpa using hx)).1
          · intro i j x v hx hv
            have := (chunk_get ag w k5 n cs.toList hp hle i x (by simpa using hx)).2 j v hv
            simpa using this
        · exact hs.elim
      · rename_i c hc
        refine ⟨_, τ, _, ?_, hr, hs⟩
        exact Weak.cell hg hc fun N v' hv => by
          obtain rfl := hv.inv_slice0
          exact .fz0 _ _
      · exact hs.elim
    · exact hs.elim
  · exact hs.elim
/-- A row of which nothing is frozen, with the mark 1. -/
theorem HRel.mark {P : Program} {N : Emb} {h : AH} {w : World} (hH : HRel P N h w) {g : Nat} {c : Array Value} {t : TypeId} (a b : Nat) (hg : h.get g = some (.cells c t (a, a))) : HRel P N (h.set g (.cells c t (b, b))) w := by
  have hget : ∀ i, i ≠ g → (h.set g (.cells c t (b, b))).get i = h.get i := fun i hi => look_setB_ne hi _ h.blocks
  have hgets : (h.set g (.cells c t (b, b))).get g = some (.cells c t (b, b)) := look_setB_self hg
  have back : ∀ i o, (h.set g (.cells c t (b, b))).get i = some o → ∃ o2, h.get i = some o2 := fun i o hi => by
    by_cases q : i = g
    · subst q; exact ⟨_, hg⟩
    · exact ⟨o, by rw [← hget i q]; exact hi⟩
  refine ⟨?_, ?_, ?_, ?_, hH.req⟩
  · intro i o hi
    by_cases q : i = g
    · subst q
      rw [hgets] at hi
      cases hi
      obtain ⟨e, o', he, hw, c', fr', rfl, h2, h3, h4, h5, h6, h7⟩ := hH.here i _ hg
      refine ⟨e, _, he, hw, c', fr', rfl, h2, h3, h4, h5, h6, fun _ => h7.1 rfl, fun j hj h1 h2 => ?_, h7.2.2⟩
      have := h7.2.1 j hj h1 h2
      omega
    · rw [hget i q] at hi
      exact hH.here i o hi
  · intro i j o p f e hi hj hf he hfe
    obtain ⟨o2, q1⟩ := back i o hi
    obtain ⟨p2, q2⟩ := back j p hj
    exact hH.inj i j _ _ f e q1 q2 hf he hfe
  · intro i o hi
    obtain ⟨o2, q1⟩ := back i o hi
    exact hH.ids i _ q1
  · intro b c hb
    refine ⟨(hH.froz b c hb).1, fun i o e hi he => ?_⟩
    obtain ⟨o2, q1⟩ := back i o hi
    exact (hH.froz b c hb).2 i _ e q1 he
theorem Weak.mark {p : Nat} {P : Program} {τ : Array Value} {h : AH} {g : Nat} {c : Array Value} {t : TypeId} (a b : Nat) (hg : h.get g = some (.cells c t (a, a))) : Weak p P τ h τ (h.set g (.cells c t (b, b))) := by
  intro N w tmps hτ hH hf
  refine ⟨N, hτ, hH.mark a b hg, ⟨hf.1, fun i hi => hf.2 i hi⟩, ⟨fun _ _ x => x, fun _ _ x y => (by rw [x] at y; cases y), fun b x => .inr (owned_set hg x), Nat.le_refl _, fun _ _ _ => rfl, rfl, rfl, rfl, fun _ _ => rfl⟩⟩
end Go.Ev

/-
  Contracts of the library's about strings, in every heap (Ev9).
-/
namespace Go.Ev
open Go.RowKit

theorem ext_below {P : Program} {N : Emb} {h : AH} {w w' : World} (hr : HRel P N h w) (hb : Below w.heap.size w w') : Ext P N h w N h w' :=
  ext_grow hr hb.size (fun b h => hb.block b h) hb.tape hb.os hb.output
/-- A value that holds no address. -/
def flatV : Value → Bool
  | .string _ | .int .. | .bool _ => true
  | _ => false
theorem flatV_rel {N : Emb} {v v' : Value} (h : flatV v = true) (hv : VRel N v v') : v' = v := by
  cases v with
  | string s => exact hv.inv_string
  | int k n => exact hv.inv_int
  | bool b => cases hv; rfl
  | _ => cases h
theorem flatV_self {N : Emb} {v : Value} (h : flatV v = true) : VRel N v v := by
  cases v with
  | string s => exact .string s
  | int k n => exact .int k n
  | bool b => exact .bool b
  | _ => cases h
theorem flat_args {N : Emb} {args : List Value} {args' : Array Value} (hf : args.all flatV = true) (h : CRel N ⟨args⟩ args') : args' = ⟨args⟩ := by
  apply Array.ext
  · exact h.1.symm
  · intro i h1 h2
    have h3 : i < args.length := by simpa using h2
    have := h.2 i args[i] args'[i] (by simp [h3]) (by simp [h1])
    have := flatV_rel (List.all_eq_true.1 hf _ (List.getElem_mem h3)) this
    simpa using this
/-- A function of strings and numbers, as the library tells it. -/
theorem flat_call {P : Program} {f : FuncId} {args : List Value} {v : Value} {H : AH} (hf : args.all flatV = true) (hv : flatV v = true) (h : ∀ w, Calls P f ⟨args⟩ w fun e w' => e = .returned v ∧ Below w.heap.size w w') : CallOK P f ⟨args⟩ H v H := by
  intro N w args' ha hr _
  rw [flat_args hf ha]
  refine (h w).mono ?_
  rintro e w' ⟨rfl, hb⟩
  exact ⟨N, v, rfl, flatV_self hv, ext_below hr hb⟩
/-- The same, where the library's tables are read. -/
theorem flat_callT {P : Program} {f : FuncId} {args : List Value} {v : Value} {H : AH} (hf : args.all flatV = true) (hv : flatV v = true) (h : ∀ w, TabsIn P w → Calls P f ⟨args⟩ w fun e w' => e = .returned v ∧ Below w.heap.size w w') : CallOK P f ⟨args⟩ H v H := by
  intro N w args' ha hr _
  rw [flat_args hf ha]
  refine (h w ⟨fun b c q => (hr.froz b c (hr.req.1 b c q)).1, fun b q => (hr.req.2 b q).imp fun _ x => (hr.froz b _ x).1⟩).mono ?_
  rintro e w' ⟨rfl, hb⟩
  exact ⟨N, v, rfl, flatV_self hv, ext_below hr hb⟩
theorem below_drew (w : World) : Below w.heap.size w w.drew := ⟨rfl, rfl, rfl, Nat.le_refl _, fun _ _ => rfl⟩

/-- strings.Join, as the library tells it: of no element; of some. -/
def JoinSaid (P : Program) (f : FuncId) : Prop := ∀ (bk o c : Nat) (xs : List ByteArray) (sep : ByteArray) (w : World),
  (∀ (j : Nat) x, xs[j]? = some x → w.cell? ⟨bk, o + j, none⟩ = some (.string x)) → bk < w.heap.size → xs.length ≤ 140737488355328 → xs.length ≤ c → (Lib.join (xs.map (·.data.toList)) sep.data.toList).length ≤ 140737488355328 →
    Calls P f #[.slice (some ⟨bk, o, none⟩) xs.length c, .string sep] w fun e w' => e = .returned (.string ⟨(Lib.join (xs.map (·.data.toList)) sep.data.toList).toArray⟩) ∧ Below w.heap.size w w'
def JoinNone (P : Program) (f : FuncId) : Prop := ∀ (a : Option Addr) (c : Nat) (sep : ByteArray) (w : World),
    Calls P f #[.slice a 0 c, .string sep] w fun e w' => e = .returned (.string ⟨#[]⟩) ∧ w' = w
theorem two_args {N : Emb} {u v : Value} {args' : Array Value} (h : CRel N ⟨[u, v]⟩ args') : ∃ u0 v0, args' = #[u0, v0] ∧ VRel N u u0 ∧ VRel N v v0 := by
  have hA : args'.size = 2 := by simpa using h.1.symm
  refine ⟨args'[0], args'[1], ?_, h.2 0 u args'[0] (by simp) (by simp), h.2 1 v args'[1] (by simp) (by simp)⟩
  apply Array.ext
  · simpa using hA
  · intro i h1 h2
    match i, h1, h2 with
    | 0, _, _ => rfl
    | 1, _, _ => rfl
    | i + 2, h1, _ => omega
theorem join_call {P : Program} {f : FuncId} (h : JoinSaid P f) (h0 : JoinNone P f) {xs : List ByteArray} {sep : ByteArray} {H : AH} (hl : xs.length ≤ 1000000) (hb : (Lib.join (xs.map (·.data.toList)) sep.data.toList).length ≤ 140737488355328) :
    CallOK P f ⟨[fz ⟨xs.map Value.string⟩, .string sep]⟩ H (.string ⟨(Lib.join (xs.map (·.data.toList)) sep.data.toList).toArray⟩) H := by
  intro N w args' ha hr _
  obtain ⟨u0, v0, rfl, hu, hv⟩ := two_args ha
  rw [hv.inv_string]
  rcases VRel.inv_fz hu with ⟨q, a, c, rfl⟩ | ⟨s, b, o, c, cs, hF, hsz, hc, hs, hx, rfl⟩
  · have : xs = [] := by
      cases xs with
      | nil => rfl
      | cons x l => simp at q
    subst this
    refine (h0 a c sep w).mono ?_
    rintro e w' ⟨rfl, rfl⟩
    exact ⟨N, _, rfl, .string _, ext_below hr (Below.refl _ _)⟩
  · obtain ⟨⟨t, fr, hw⟩, _⟩ := hr.froz b cs hF
    have hn : (Array.mk (xs.map Value.string)).size = xs.length := by simp
    rw [hn] at hsz hc ⊢
    refine (h b o c xs sep w ?_ (lt_of_some hw) (by omega) hc hb).mono ?_
    · intro j x hj
      have hj2 : j < xs.length := (List.getElem?_eq_some_iff.1 hj).1
      have hjx : (Array.mk (xs.map Value.string))[j]? = some (.string x) := by
        have : (xs.map Value.string)[j]? = some (.string x) := by rw [List.getElem?_map, hj]; rfl
        simpa using this
      have hs1 := hs j _ hjx
      have hs1 : s = 1 := hs1.symm
      subst hs1
      have hlt : o + j * 1 + 0 < cs.size := by omega
      have h1 := (hx j 0 (.string x) (.string x) cs[o + j * 1 + 0] hjx rfl (Array.getElem?_eq_getElem hlt)).inv_string
      have h2 : cs[o + j * 1 + 0]? = some (.string x) := by rw [Array.getElem?_eq_getElem hlt, h1]
      rw [cell_eq hw]
      have h3 : o + j * 1 + 0 = o + j := by omega
      rw [h3] at h2
      exact h2
    · rintro e w' ⟨rfl, hb2⟩
      exact ⟨N, _, rfl, .string _, ext_below hr hb2⟩
end Go.Ev

/-
  Slices told as full; slots that are told (Ev0).
-/
namespace Go.Ev
open Go.RowKit

theorem VRel.cutSl {P : Program} {N : Emb} {h : AH} {w : World} (hH : HRel P N h w) {g n c k : Nat} {cs : List Value} {t : TypeId} {fr : Nat × Nat} (hg : h.get g = some (.cells ⟨cs⟩ t fr)) (hw : width P t = k) (hc : c * k ≤ cs.length) (hn : n ≤ c) {v' : Value}
    (hv : VRel N (.slice (some ⟨g, 0, none⟩) n c) v') : VRel N (.slice (some ⟨g, 0, none⟩) n n) v' := by
  obtain ⟨f, o1, c1, hsp, hfb, hcc, hzz, hoo, rfl⟩ := hv.inv_slice
  simp only at hfb hoo hcc
  have hfb : N g = some f := hfb
  obtain ⟨e, o', he, hw2, c', fr', rfl, h2, h3, h4, h5, h6, h7⟩ := hH.here g _ hg
  rw [he] at hfb
  cases hfb
  have h3 : f.d + cs.length ≤ f.z := by simpa using h3
  refine .slice g 0 n n f o1 c1 he (by omega) ?_ ?_
  · rcases hzz with q | q
    · rcases hoo with ⟨_, q1, _⟩ | q1
      · exact .inl (by omega)
      · refine .inr ⟨?_, ?_⟩
        · rw [q, q1, h4, hw]; omega
        · rw [q1]; exact h5
    · exact .inr q
  · rcases hoo with ⟨q0, q1, q2⟩ | q
    · exact .inl ⟨q0, q0, q2⟩
    · exact .inr q

theorem HRel.cutO {P : Program} {N : Emb} {h : AH} {w : World} (hH : HRel P N h w) {g k : Nat} {cs : List Value} {t : TypeId} {a : Nat} (hg : h.get g = some (.cells ⟨cs⟩ t (a, a))) : HRel P N (h.set g (.cells ⟨cs.take k⟩ t (a, a))) w := by
  have hget : ∀ i, i ≠ g → (h.set g (.cells ⟨cs.take k⟩ t (a, a))).get i = h.get i := fun i hi => look_setB_ne hi _ h.blocks
  have hgets : (h.set g (.cells ⟨cs.take k⟩ t (a, a))).get g = some (.cells ⟨cs.take k⟩ t (a, a)) := look_setB_self hg
  have back : ∀ i o, (h.set g (.cells ⟨cs.take k⟩ t (a, a))).get i = some o → ∃ o2, h.get i = some o2 := fun i o hi => by
    by_cases q : i = g
    · subst q; exact ⟨_, hg⟩
    · exact ⟨o, by rw [← hget i q]; exact hi⟩
  refine ⟨?_, ?_, ?_, ?_, hH.req⟩
  · intro i o hi
    by_cases q : i = g
    · subst q
      rw [hgets] at hi
      cases hi
      obtain ⟨e, o', he, hw, c', fr', rfl, h2, h3, h4, h5, h6, h7⟩ := hH.here i _ hg
      have h3 : e.d + cs.length ≤ e.z := by simpa using h3
      have hlen : (cs.take k).length ≤ cs.length := by rw [List.length_take]; omega
      refine ⟨e, _, he, hw, c', fr', rfl, h2, ?_, h4, h5, fun j u hu => ?_, ?_⟩
      · show e.d + (cs.take k).length ≤ e.z; omega
      · have hu2 : (cs.take k)[j]? = some u := by simpa using hu
        rw [List.getElem?_take] at hu2
        split at hu2
        · exact h6 j u (by simpa using hu2)
        · cases hu2
      · obtain ⟨y1, y2, y3⟩ := h7
        have y1 := y1 rfl
        refine ⟨fun _ => y1, fun i _ x y => ?_, fun j _ _ ⟨x, y⟩ => ?_⟩ <;> (simp only at *; omega)
    · rw [hget i q] at hi
      exact hH.here i o hi
  · intro i j o p f e hi hj hf he hfe
    obtain ⟨o2, q1⟩ := back i o hi
    obtain ⟨p2, q2⟩ := back j p hj
    exact hH.inj i j _ _ f e q1 q2 hf he hfe
  · intro i o hi
    obtain ⟨o2, q1⟩ := back i o hi
    exact hH.ids i _ q1
  · intro b c hb
    refine ⟨(hH.froz b c hb).1, fun i o e hi he => ?_⟩
    obtain ⟨o2, q1⟩ := back i o hi
    exact (hH.froz b c hb).2 i _ e q1 he

/-- A slice is told as full: its row as long as it is. -/
theorem Weak.cut {p : Nat} {P : Program} {τ τ2 : Array Value} {h : AH} {g n c k : Nat} {cs : List Value} {t : TypeId} {a : Nat} (hg : h.get g = some (.cells ⟨cs⟩ t (a, a))) (hw : width P t = k) (hc : c * k ≤ cs.length) (hn : n ≤ c)
    (hsz : τ2.size = τ.size) (hτ2 : ∀ i : Nat, τ2[i]? = τ[i]? ∨ (τ[i]? = some (.slice (some ⟨g, 0, none⟩) n c) ∧ τ2[i]? = some (.slice (some ⟨g, 0, none⟩) n n))) :
    Weak p P τ h τ2 (h.set g (.cells ⟨cs.take (n * k)⟩ t (a, a))) := by
  intro N w tmps hτ hH hf
  refine ⟨N, ⟨hsz.trans hτ.1, fun i v v' x y => ?_⟩, hH.cutO hg, ⟨hf.1, fun i hi => hf.2 i hi⟩, ⟨fun _ _ x => x, fun _ _ x y => (by rw [x] at y; cases y), fun b x => .inr (owned_set hg x), Nat.le_refl _, fun _ _ _ => rfl, rfl, rfl, rfl, fun _ _ => rfl⟩⟩
  rcases hτ2 i with q | ⟨q1, q2⟩
  · exact hτ.2 i v v' (by rw [← q]; exact x) y
  · rw [q2] at x
    cases x
    exact (hτ.2 i _ v' q1 y).cutSl hH hg hw hc hn
theorem setB_setB {i : Nat} {o o2 : Obj} : ∀ l : List (Nat × Obj), setB i o2 (setB i o l) = setB i o2 l
  | [] => rfl
  | (j, x) :: l => by
    cases hq : Nat.beq j i with
    | true =>
      have h1 : setB i o ((j, x) :: l) = (j, o) :: l := by show cond (Nat.beq j i) _ _ = _; rw [hq]; rfl
      have h2 : setB i o2 ((j, x) :: l) = (j, o2) :: l := by show cond (Nat.beq j i) _ _ = _; rw [hq]; rfl
      rw [h1, h2]
      show cond (Nat.beq j i) _ _ = _
      rw [hq]; rfl
    | false =>
      have h1 : ∀ (o : Obj) (x : Obj) (l : List (Nat × Obj)), setB i o ((j, x) :: l) = (j, x) :: setB i o l := fun o x l => by show cond (Nat.beq j i) _ _ = _; rw [hq]; rfl
      rw [h1, h1, h1, setB_setB l]
theorem set_set {h : AH} {i : Nat} {o o2 : Obj} : (h.set i o).set i o2 = h.set i o2 := by
  show (⟨h.next, min (min h.low i) i, setB i o2 (setB i o h.blocks)⟩ : AH) = ⟨h.next, min h.low i, setB i o2 h.blocks⟩
  rw [setB_setB, Nat.min_assoc, Nat.min_self]
/-- A slot's slice is told as full. -/
noncomputable def cutG (P : Program) (m s : Nat) : LS := fun t h K => match t.get s with
  | .slice (some ⟨b, 0, none⟩) n c => match h.get b with
    | some (.cells ⟨cs⟩ ty fr) => cond (Nat.beq fr.1 fr.2 && Nat.ble (c * width P ty) cs.length && Nat.ble n c) (K .normal (putF m t (some s) (.slice (some ⟨b, 0, none⟩) n n)) (h.set b (.cells ⟨cs.take (n * width P ty)⟩ ty (0, 0)))) False
    | _ => False
  | .slice none 0 0 => K .normal t h
  | _ => False
theorem cutG_ok (p : Nat) (P : Program) (m s : Nat) : GSpec p P m (cutG P m s) := by
  intro t τ h K hr hs
  unfold cutG at hs
  split at hs
  · rename_i b n c hsl
    split at hs
    · rename_i cs ty fr hg
      obtain ⟨hb, hs2⟩ := cond_need hs
      clear hs
      rw [Bool.and_eq_true, Bool.and_eq_true, Nat.ble_eq, Nat.ble_eq] at hb
      obtain ⟨x, y⟩ := fr
      have hxy : x = y := Nat.eq_of_beq_eq_true hb.1.1
      subst hxy
      have hp := hr.put (some s) (.slice (some ⟨b, 0, none⟩) n n)
      have h1 := Weak.cut (p := p) (P := P) (τ := τ) (τ2 := putT τ (some s) (.slice (some ⟨b, 0, none⟩) n n)) hg rfl hb.1.2 hb.2 (by simp [putT]) (fun i => by
        show (τ.setIfInBounds s _)[i]? = _ ∨ (_ ∧ (τ.setIfInBounds s _)[i]? = _)
        rw [Array.getElem?_setIfInBounds]
        split
        · rename_i hsi
          subst hsi
          split
          · rename_i hlt
            refine .inr ⟨?_, rfl⟩
            rw [show τ[s]? = some (t.get s) by rw [hr.get s, Array.getElem?_eq_getElem hlt]; rfl, hsl]
          · rename_i hlt
            left
            rw [Array.getElem?_eq_none (by omega)]
        · exact .inl rfl)
      have hg2 : (h.set b (.cells ⟨cs.take (n * width P ty)⟩ ty (x, x))).get b = some (.cells ⟨cs.take (n * width P ty)⟩ ty (x, x)) := look_setB_self hg
      have h2 := Weak.mark (p := p) (P := P) (τ := putT τ (some s) (.slice (some ⟨b, 0, none⟩) n n)) x 0 hg2
      rw [set_set] at h2
      exact ⟨_, _, _, h1.trans h2, hp, hs2⟩
    · exact hs.elim
  · exact ⟨t, τ, h, Weak.refl _ _ _ _, hr, hs⟩
  · exact hs.elim
/-- A slot's row gets the mark 1, if there is one. -/
noncomputable def mark1G (s : Nat) : LS := fun t h K => match t.get s with
  | .slice (some ⟨b, 0, none⟩) _ _ => match h.get b with
    | some (.cells c ty fr) => cond (Nat.beq fr.1 fr.2) (K .normal t (h.set b (.cells c ty (1, 1)))) False
    | _ => False
  | .slice none 0 0 => K .normal t h
  | _ => False
theorem mark1G_ok (p : Nat) (P : Program) (m s : Nat) : GSpec p P m (mark1G s) := by
  intro t τ h K hr hs
  unfold mark1G at hs
  split at hs
  · split at hs
    · rename_i c ty fr hg
      obtain ⟨hb, hs2⟩ := cond_need hs
      clear hs
      obtain ⟨x, y⟩ := fr
      have hxy : x = y := Nat.eq_of_beq_eq_true hb
      subst hxy
      exact ⟨t, τ, _, Weak.mark x 1 hg, hr, hs2⟩
    · exact hs.elim
  · exact ⟨t, τ, h, Weak.refl _ _ _ _, hr, hs⟩
  · exact hs.elim
/-- A slot is told. -/
noncomputable def tellG (m s : Nat) (v : Value) : LS := fun t h K => t.get s = v ∧ K .normal (putF m t (some s) v) h
theorem tellG_ok (p : Nat) (P : Program) (m s : Nat) (v : Value) : GSpec p P m (tellG m s v) := by
  intro t τ h K hr hs
  obtain ⟨h1, hs⟩ := hs
  have hp := hr.put (some s) v
  refine ⟨_, τ, h, Weak.refl _ _ _ _, ?_, hs⟩
  have : putT τ (some s) v = τ := by
    show τ.setIfInBounds s v = τ
    apply Array.ext
    · simp
    · intro i h2 h3
      rw [Array.getElem_setIfInBounds]
      split
      · rename_i q
        subst q
        have := hr.get s
        rw [h1, Array.getElem?_eq_getElem h3] at this
        exact this
      · rfl
  rw [this] at hp
  exact hp
end Go.Ev

/-
  The abstract evaluator: a range over a function, by triples (Evr).
-/
namespace Go.Ev
open Go.RowKit

/-- A heap that holds cells only. -/
def AllCells (h : AH) : Prop := ∀ i o, h.get i = some o → ∃ c t fr, o = .cells c t fr
theorem HRel.cellsAt {P : Program} {N : Emb} {h : AH} {W : World} (hr : HRel P N h W) (hc : AllCells h) {i : Nat} {o : Obj} {e : Ent} (hi : h.get i = some o) (he : N i = some e) : ∃ c t fr, W.heap[e.r]? = some (.cells c t fr) := by
  obtain ⟨e', o', he', hw, ho⟩ := hr.here i o hi
  rw [he] at he'
  cases he'
  obtain ⟨c, t, fr, rfl⟩ := hc i o hi
  obtain ⟨c', fr', h1, _⟩ := ho
  exact ⟨c', t, fr', by rw [hw, h1]⟩
theorem HRel.grown {P : Program} {N : Emb} {h : AH} {W W' : World} {row : Option Nat} (hr : HRel P N h W) (hc : AllCells h) (hg : W.grownBy W' row) (hrow : ∀ r, row = some r → ∃ o : Obj, W.heap[r]? = some o ∧ o.isCells = false) : HRel P N h W' := by
  have keep : ∀ (b : Nat) (c : Array Value) (t : TypeId) (fr : Nat × Nat), W.heap[b]? = some (Obj.cells c t fr) → W'.heap[b]? = some (Obj.cells c t fr) := fun b c t fr hb => by
    refine (hg.block b (lt_of_some hb) fun e => ?_).trans hb
    obtain ⟨o, h1, h2⟩ := hrow b e.symm
    rw [hb] at h1
    cases h1
    cases h2
  refine ⟨fun i o hi => ?_, hr.inj, hr.ids, fun b c hb => ?_, hr.req⟩
  · obtain ⟨e, o', he, hw, ho⟩ := hr.here i o hi
    obtain ⟨c, t, fr, h1⟩ := hr.cellsAt hc hi he
    exact ⟨e, o', he, by rw [keep _ _ _ _ h1, ← h1]; exact hw, ho⟩
  · obtain ⟨⟨t, fr, h1⟩, h2⟩ := hr.froz b c hb
    exact ⟨⟨t, fr, keep _ _ _ _ h1⟩, h2⟩
theorem WX.grown {p : Nat} {N N' : Emb} {h h' : AH} {w W W' : World} {row : Option Nat} (hx : WX p N h w N' h' W) (hg : W.grownBy W' row) (hrow : ∀ r, row = some r → w.heap.size ≤ r) : WX p N h w N' h' W' :=
  ⟨hx.leF, hx.newF, hx.own, Nat.le_trans hx.size hg.size, fun b hb hn => (hg.block b (Nat.lt_of_lt_of_le hb hx.size) fun e => by have := hrow b e.symm; omega).trans (hx.keep b hb hn), hg.tape.trans hx.tape, hg.os.trans hx.os, hg.output.trans hx.output, hx.pins⟩
theorem WX.keepsFrom {p : Nat} {P : Program} {N N' : Emb} {h h' : AH} {w w' : World} (hx : WX p N h w N' h' w') (hr : HRel P N h w) (hc : AllCells h) (B : Nat) : KeepsFrom B w w' :=
  ⟨hx.size, fun k o _ hk ho => by
    rw [hx.keep k (lt_of_some hk) ?_]
    · exact hk
    · rintro ⟨i, o', e, h1, h2, rfl⟩
      obtain ⟨c, t, fr, h3⟩ := hr.cellsAt hc h1 h2
      rw [hk] at h3
      cases h3
      cases ho⟩
theorem WX.leN {p : Nat} {N N' : Emb} {h h' : AH} {w w' : World} (hx : WX h.next N h w N' h' w') (hf : FreshAll p N h) : Emb.le N N' :=
  ⟨fun i e he => (Nat.lt_or_ge i h.next).elim (fun hi => by rw [hx.pins i hi]; exact he) (fun hi => by rw [hf.2 i hi] at he; cases he), hx.leF⟩
theorem WX.fewer {p q : Nat} {N N' : Emb} {h h' : AH} {w w' : World} (hx : WX q N h w N' h' w') (hp : p ≤ q) : WX p N h w N' h' w' :=
  ⟨hx.leF, hx.newF, hx.own, hx.size, hx.keep, hx.tape, hx.os, hx.output, fun i hi => hx.pins i (Nat.lt_of_lt_of_le hi hp)⟩
theorem CRel.puts {N : Emb} {vs : Array Value} (hv : ∀ v ∈ vs.toList, VRel N v v) (ps : Array Tmp) {τ t : Array Value} (h : CRel N τ t) : CRel N ((ps.zip vs).foldl (fun t (p, v) => t.setIfInBounds p v) τ) ((ps.zip vs).foldl (fun t (p, v) => t.setIfInBounds p v) t) := by
  rw [← Array.foldl_toList, ← Array.foldl_toList]
  have hz : ∀ q ∈ (ps.zip vs).toList, VRel N q.2 q.2 := fun q hq => hv _ (by
    rw [Array.toList_zip] at hq
    exact (List.of_mem_zip hq).2)
  generalize (ps.zip vs).toList = l at hz
  induction l generalizing τ t with
  | nil => exact h
  | cons q l ih =>
    rw [List.foldl_cons, List.foldl_cons]
    exact ih (CRel.set h q.1 (hz q (by simp))) fun q hq => hz q (by simp [hq])

/-- What an iterator does, told for the state in which its loop begins: Good is what it wants kept. -/
def IterOK {α : Type} (p : Nat) (P : Program) (gf : Nat) (lbA : Array Value) (h : AH) (HI : AH → Prop) (encs : α → Array Value) (S Sp : List α → Prop) (M : Nat) : Prop :=
  ∀ (n : Nat) (N : Emb) (w : World) (lb : Array Value), 3 ≤ n → CRel N lbA lb → HRel P N h w → FreshAll p N h → ∃ Good : World → Prop,
    SeqStopsK (wideR none) n P gf lb encs (fun X Y => Good X → Good Y) S Sp M w ∧ Good w ∧
    (∀ N' h' W, HRel P N' h' W → Emb.le N N' → HI h' → Good W) ∧ (∀ (W : World) (l : Nat) (o o' : Obj), W.heap[l]? = some o → o.isCells = false → Good W → Good (W.putObj l o'))

theorem Tri.rangeFunc {α : Type} {p : Nat} {P : Program} {g : Tmp} {ps : Array Tmp} {assign body : Code} {τ : Array Value} {h : AH} {Q : AExit → Array Value → AH → Prop}
    {gf : Nat} {lbA : Array Value} (hg : evalT τ (.tmp g) = .func (.func gf) #[] lbA) (eg : ∀ args w, (callFunc gf args).run P w = .ok (.enter gf args) w)
    {encs : α → Array Value} {S Sp : List α → Prop} {M : Nat} (HI : AH → Prop) (hit : IterOK p P gf lbA h HI encs S Sp M) (hps : ∀ x, (encs x).size = ps.size) (hfl : ∀ x N, ∀ v ∈ (encs x).toList, VRel N v v)
    (ha : norf assign = true) (hb : norf body = true) (IP : List α → Prop) (Fin : AExit → List α → AH → Prop) (AxA : α → Array Value → AH → Prop)
    (h0 : IP []) (hh0 : HI h) (hc0 : AllCells h)
    (hassign : ∀ x h1, HI h1 → AllCells h1 → Tri h.next P assign ((ps.zip (encs x)).foldl (fun t (p, v) => t.setIfInBounds p v) τ) h1 (fun e τ' h' => e = .normal ∧ HI h' ∧ AllCells h' ∧ AxA x τ' h'))
    (hbody : ∀ pre x τ1 h1, IP pre → AxA x τ1 h1 → AllCells h1 → Tri h.next P body τ1 h1 (fun e _ h' => AllCells h' ∧ match e with | .normal => HI h' ∧ IP (pre ++ [x]) | e => Fin e (pre ++ [x]) h'))
    (hdone : ∀ xs h', S xs → IP xs → HI h' → AllCells h' → Q .normal τ h') (hstop : ∀ e pre h', Sp pre → Fin e pre h' → Q e τ h') : Tri p P (.rangeFunc (.tmp g) ps assign body) τ h Q := by
  intro ro dp hRF N w a K hτ hr hf hK
  obtain ⟨rfl, hdp⟩ : ro = none ∧ 5 ≤ dp := hRF.resolve_left (by simp [norf])
  have hgv := getD_rel hτ g
  rw [show (τ[g]?).getD undef = .func (.func gf) #[] lbA from hg] at hgv
  obtain ⟨_, x', lb, e1, e2, hx0, hlb⟩ := hgv.inv_func
  cases e1
  have hx0 : x' = #[] := by simpa using hx0.1.symm
  subst hx0
  have hev : a.eval (.tmp g) = .func (.func gf) #[] lb := e2
  obtain ⟨Good, hseq, hG0, hGI, hGp⟩ := hit (dp - 1) N w lb (by omega) hlb hr hf
  have hfn : FreshAll h.next N h := ⟨Nat.le_refl _, hf.2⟩
  let St : (AH → Prop) → World → Prop := fun X W => ∃ N' h', X h' ∧ AllCells h' ∧ HRel P N' h' W ∧ FreshAll h.next N' h' ∧ WX h.next N h w N' h' W
  have hSt : ∀ (X : AH → Prop) (W W' : World) (row : Option Nat), St X W → W.grownBy W' row → (∀ r, row = some r → w.heap.size ≤ r ∧ ∃ o : Obj, W.heap[r]? = some o ∧ o.isCells = false) → St X W' := by
    rintro X W W' row ⟨N', h', k1, k2, k3, k4, k5⟩ hgr hrow
    exact ⟨N', h', k1, k2, k3.grown k2 hgr fun r e => (hrow r e).2, k4, k5.grown hgr fun r e => (hrow r e).1⟩
  have outK : ∀ (e : AExit) (D : Nat) (W : World) (X : AH → Prop), w.heap.size ≤ D → W.heap[D]? = some (.deferred (some [])) → (∀ h', X h' → Q e τ h') → (∃ N' h', X h' ∧ AllCells h' ∧ HRel P N' h' W ∧ FreshAll h.next N' h' ∧ WX h.next N h w N' h' W) →
      K e.to { a with defers := { target := .collected D, args := #[] } :: a.defers } W := by
    rintro e D W X hD hdef hX ⟨N', h', k1, k2, k3, k4, k5⟩
    refine hK e τ h' N' _ W (hX h' k1) (CRel.mono (k5.leN hf) hτ) ⟨[D], rfl, by simp, fun D' hD' => ?_⟩ k3 ⟨Nat.le_trans hf.1 k4.1, k4.2⟩ (k5.fewer hf.1)
    rw [List.mem_singleton.1 hD']
    exact ⟨hD, hdef⟩
  refine wpIn_rangeFunc_ownH (F := wideR none) (n := dp) rfl (by omega) hev trivial eg hseq (fun {A B C} x y z => y (x z)) (fun W l o o' _ hl ho _ hG => hGp W l o o' hl ho hG) (Below.refl _ _) hps
    (fun pre W => IP pre ∧ St HI W)
    (fun c pre W => ∃ e : AExit, e ≠ .normal ∧ c = (match e with | .normal => Code.skip | .exit i => .exit i | .ret => .ret) ∧ St (Fin e pre) W)
    (fun pre W W' row hs hgr hrow => ⟨hs.1, hSt _ W W' row hs.2 hgr hrow⟩)
    (fun c pre W W' row hs hgr hrow => by obtain ⟨e, q1, q2, q3⟩ := hs; exact ⟨e, q1, q2, hSt _ W W' row q3 hgr hrow⟩)
    ⟨h0, N, h, hh0, hc0, hr, hfn, WX.refl _ _ _ _⟩
    (fun x a' W => ∃ N' h' τ', AxA x τ' h' ∧ AllCells h' ∧ CRel N' τ' a'.tmps ∧ HRel P N' h' W ∧ FreshAll h.next N' h' ∧ WX h.next N h w N' h' W)
    (fun x a' _ W W' row hs hgr hrow => by
      obtain ⟨N', h', τ', k1, k2, k3, k4, k5, k6⟩ := hs
      exact ⟨N', h', τ', k1, k2, k3, k4.grown k2 hgr fun r e => (hrow r e).2, k5, k6.grown hgr fun r e => (hrow r e).1⟩) ?assign ?body ?done ?stop
  case assign =>
    rintro l pre x W K2 ⟨hp, N1, h1, k1, k2, k3, k4, k5⟩ hK2
    refine hassign x h1 k1 k2 (some l) (dp - 1 - 1) (.inl ha) N1 W _ _ (CRel.puts (hfl x N1) ps (CRel.mono (k5.leN hf) hτ)) k3 k4 ?_
    rintro e τ' h' N' a' W' ⟨rfl, q1, q2, q3⟩ m1 m2 m3 m4 m5
    have mx := k5.trans m5
    exact hK2 a' W' (m5.keepsFrom k3 k2 _) (fun _ => hGI N' h' W' m3 (mx.leN hf) q1) ⟨hp, N', h', q1, q2, m3, m4, mx⟩ ⟨N', h', τ', q3, q2, m1, m3, m4, mx⟩
  case body =>
    rintro l pre x a' W hl _ ⟨hp, _⟩ ⟨N1, h1, τ1, k1, k2, k3, k4, k5, k6⟩ hlt
    refine hbody pre x τ1 h1 hp k1 k2 (some l) (dp - 1 - 1) (.inl hb) N1 W a' _ k3 k4 k5 ?_
    rintro e τ' h' N' a2 W' ⟨q1, q2⟩ m1 m2 m3 m4 m5
    have mx := k6.trans m5
    have hkf := m5.keepsFrom k4 k2 w.heap.size
    cases e with
    | normal => exact ⟨hkf, fun _ => hGI N' h' W' m3 (mx.leN hf) q2.1, q2.2, N', h', q2.1, q1, m3, m4, mx⟩
    | exit i => exact ⟨hkf, .exit i, by simp, rfl, N', h', q2, q1, m3, m4, mx⟩
    | ret => exact ⟨hkf, .ret, by simp, rfl, N', h', q2, q1, m3, m4, mx⟩
  case done =>
    rintro D xs W hD hS ⟨hp, hs⟩ hdef
    exact outK .normal D W (fun h' => HI h' ∧ AllCells h') hD hdef (fun h' q => hdone xs h' hS hp q.1 q.2) (by
      obtain ⟨N', h', k1, k2, k3⟩ := hs
      exact ⟨N', h', ⟨k1, k2⟩, k2, k3⟩)
  case stop =>
    rintro D c pre W hD hS ⟨e, hne, rfl, hs⟩ hdef
    have := outK e D W (Fin e pre) hD hdef (fun h' q => hstop e pre h' hS q) hs
    cases e with
    | normal => exact absurd rfl hne
    | exit i => exact wpIn_exit this
    | ret => exact wpIn_ret this
end Go.Ev

/-
  The abstract evaluator: slices whose room is known (Evs): what holds where there is no room, and where there is some, holds.
-/
namespace Go.Ev

theorem orel_room {P : Program} {N : Emb} {e : Ent} {cs : List Value} {t : TypeId} {fr : Nat × Nat} {o' : Obj} (k : Nat) (hfr : fr.1 = fr.2) (h : ORel P N e (.cells ⟨cs⟩ t fr) o') (hz : e.d + (cs.length + k) ≤ e.z) :
    ORel P N e (.cells ⟨cs ++ List.replicate k anyV⟩ t fr) o' := by
  obtain ⟨c', fr', rfl, h1, h2, h3, h4, h5, h6, h7, h8⟩ := h
  refine ⟨c', fr', rfl, h1, ?_, h3, h4, ?_, ?_⟩
  · simp; omega
  · intro i v hv
    simp only [List.getElem?_toArray] at hv
    by_cases hi : i < cs.length
    · rw [List.getElem?_append_left hi] at hv
      exact h5 i v (by simpa using hv)
    · rw [List.getElem?_append_right (by omega)] at hv
      obtain ⟨hlt, hv⟩ := List.getElem?_eq_some_iff.1 hv
      simp at hv hlt
      subst hv
      have : e.d + i < c'.size := by omega
      exact ⟨c'[e.d + i], Array.getElem?_eq_getElem this, .any _⟩
  · have q := h6 hfr
    refine ⟨fun _ => q, fun i _ a b => by omega, fun j _ _ => by omega⟩

theorem FnOK.room {p : Nat} {P : Program} {f : FuncId} {rest : List Value} {cs : List Value} {t : TypeId} {nx lw n : Nat} {bl : List (Nat × Obj)} {fr : Nat × Nat} {Q : Value → AH → Prop} (hfr : fr.1 = fr.2) (hn : 0 < n) (hcs : cs.length = n * width P t)
    (h1 : FnOK p P f ⟨xsV 0 n n :: rest⟩ ⟨nx, lw, (0, .cells ⟨cs⟩ t fr) :: bl⟩ Q)
    (h2 : ∀ c, n < c → FnOK p P f ⟨xsV 0 n c :: rest⟩ ⟨nx, lw, (0, .cells ⟨cs ++ List.replicate ((c - n) * width P t) anyV⟩ t fr) :: bl⟩ Q) :
    FnOK p P f ⟨.slice (some ⟨0, 0, none⟩) n n :: rest⟩ ⟨nx, lw, (0, .cells ⟨cs⟩ t fr) :: bl⟩ Q := by
  intro N w args' hargs hr hf
  have hsz : args'.size = rest.length + 1 := by have := hargs.1; simp at this; omega
  have h0 : args'[0]? = some args'[0] := Array.getElem?_eq_getElem (by omega)
  have hv := hargs.2 0 (.slice (some ⟨0, 0, none⟩) n n) args'[0] (by simp) h0
  have key : ∀ u : Value, VRel N u args'[0] → CRel N ⟨u :: rest⟩ args' := fun u hu => ⟨by rw [hsz]; simp, fun i x y a b => by
    cases i with
    | zero =>
      simp at a
      subst a
      rw [h0] at b
      cases b
      exact hu
    | succ i => exact hargs.2 (i + 1) x y (by simpa using a) b⟩
  obtain ⟨e, o', c', _, he, hc, hz, ho, ha0⟩ := hv.inv_slice
  have ho : o' = e.d := by
    rcases ho with ⟨q, _⟩ | q
    · omega
    · simpa using q
  subst ho
  have hx : VRel N (xsV 0 n c') args'[0] := by rw [ha0]; exact .xs 0 n c' e he
  by_cases hcc : c' = n
  · subst hcc
    exact h1 N w args' (key _ hx) hr hf
  · have hz := (hz.resolve_left hcc).1
    have hhd : ∀ o : Obj, look 0 ((0, o) :: bl) = some o := fun o => rfl
    have htl : ∀ (o : Obj) i, i ≠ 0 → look i ((0, o) :: bl) = look i bl := fun o i hi => by
      have : Nat.beq 0 i = false := by cases q : Nat.beq 0 i with | false => rfl | true => exact absurd (Nat.eq_of_beq_eq_true q).symm hi
      simp [look, this]
    obtain ⟨_, _, _, _, _, hs1, _⟩ := hr.row (b := 0) (hhd _) he
    have hroom : e.d + (cs.length + (c' - n) * width P t) ≤ e.z := by
      rw [hs1] at hz
      rw [hcs, ← Nat.add_mul, show n + (c' - n) = c' by omega]
      exact hz
    have hr2 : HRel P N ⟨nx, lw, (0, .cells ⟨cs ++ List.replicate ((c' - n) * width P t) anyV⟩ t fr) :: bl⟩ w := by
      have hsome : ∀ i o, look i ((0, Obj.cells ⟨cs ++ List.replicate ((c' - n) * width P t) anyV⟩ t fr) :: bl) = some o → ∃ o2, look i ((0, Obj.cells ⟨cs⟩ t fr) :: bl) = some o2 := fun i o hi => by
        by_cases h : i = 0
        · subst h; exact ⟨_, hhd _⟩
        · rw [htl _ i h] at hi; exact ⟨o, by rw [htl _ i h]; exact hi⟩
      refine ⟨fun i o hi => ?_, fun i j o q e f hi hj he hf hef => ?_, fun i o hi => ?_, fun b c hb => ⟨(hr.froz b c hb).1, fun i o e hi he => ?_⟩, hr.req⟩
      · by_cases h : i = 0
        · subst h
          have hi : look 0 ((0, Obj.cells ⟨cs ++ List.replicate ((c' - n) * width P t) anyV⟩ t fr) :: bl) = some o := hi
          rw [hhd] at hi
          cases hi
          obtain ⟨e1, o1, k1, k2, k3⟩ := hr.here 0 _ (hhd _)
          rw [he] at k1
          cases k1
          exact ⟨e, o1, he, k2, orel_room _ hfr k3 hroom⟩
        · have hi : look i ((0, Obj.cells ⟨cs ++ List.replicate ((c' - n) * width P t) anyV⟩ t fr) :: bl) = some o := hi
          rw [htl _ i h] at hi
          exact hr.here i o (by show look i _ = _; rw [htl _ i h]; exact hi)
      · obtain ⟨o2, q1⟩ := hsome i o hi
        obtain ⟨o3, q2⟩ := hsome j q hj
        exact hr.inj i j _ _ e f q1 q2 he hf hef
      · obtain ⟨o2, q1⟩ := hsome i o hi
        exact hr.ids i o2 q1
      · obtain ⟨o2, q1⟩ := hsome i o hi
        exact (hr.froz b c hb).2 i o2 e q1 he
    have hown : ∀ b, Owned N ⟨nx, lw, (0, .cells ⟨cs ++ List.replicate ((c' - n) * width P t) anyV⟩ t fr) :: bl⟩ b ↔ Owned N ⟨nx, lw, (0, .cells ⟨cs⟩ t fr) :: bl⟩ b := fun b => by
      constructor
      · rintro ⟨i, o, e, q1, q2, q3⟩
        by_cases h : i = 0
        · subst h; exact ⟨0, _, e, hhd _, q2, q3⟩
        · exact ⟨i, o, e, by show look i _ = _; rw [htl _ i h, ← q1]; exact (htl _ i h).symm, q2, q3⟩
      · rintro ⟨i, o, e, q1, q2, q3⟩
        by_cases h : i = 0
        · subst h; exact ⟨0, _, e, hhd _, q2, q3⟩
        · exact ⟨i, o, e, by show look i _ = _; rw [htl _ i h, ← q1]; exact (htl _ i h).symm, q2, q3⟩
    refine (h2 c' (by omega) N w args' (key _ hx) hr2 hf).mono ?_
    rintro en w' ⟨v, h', N', v', q, q1, q2, q3, q4, q5⟩
    exact ⟨v, h', N', v', q, q1, q2, q3, q4, ⟨q5.leF, fun b c a1 a2 => (q5.newF b c a1 a2).imp id (hown b).1, fun b a => (q5.own b a).imp id (hown b).1, q5.size, fun b a1 a2 => q5.keep b a1 (fun x => a2 ((hown b).1 x)), q5.tape, q5.os, q5.output, q5.pins⟩⟩

/-- A slice whose room is known is a slice. -/
theorem Weak.unxs {p : Nat} {P : Program} {b n c : Nat} {h : AH} : Weak p P #[xsV b n c] h #[.slice (some ⟨b, 0, none⟩) n c] h := by
  intro N w tmps hτ hr hf
  refine ⟨N, ?_, hr, hf, WX.refl p N h w⟩
  have hsz : tmps.size = 1 := by have := hτ.1; simpa using this.symm
  refine ⟨by simp [hsz], fun i v v' a b => ?_⟩
  cases i with
  | zero =>
    simp at a
    subst a
    exact VRel.of_xs (hτ.2 0 _ v' rfl b)
  | succ i => simp at a
/-- A block by another name. -/
theorem Weak.move {p : Nat} {P : Program} {b n c : Nat} {h : AH} {o : Obj} (hb : h.get b = some o) : Weak p P #[.slice (some ⟨b, 0, none⟩) n c] h #[.slice (some ⟨h.next, 0, none⟩) n c] ((h.del b).push o) := by
  intro N w tmps hτ hr hf
  obtain ⟨e, o', he, hw, ho⟩ := hr.here b o hb
  have hN : N h.next = none := hf.2 h.next (Nat.le_refl _)
  have hE : Ext P N h w (N.add h.next e) ((h.del b).push o) w := ext_move hr hN hb he rfl (ho.mono (Emb.le_add hN _)) rfl hw (fun _ _ => rfl) rfl rfl rfl
  refine ⟨_, ?_, hE.rel, hE.freshAll hf, hE.wx hf⟩
  have hsz : tmps.size = 1 := by have := hτ.1; simpa using this.symm
  refine ⟨by simp [hsz], fun i v v' a bb => ?_⟩
  cases i with
  | zero =>
    simp at a
    subst a
    obtain ⟨e1, o1, c1, _, k1, k2, k3, k4, rfl⟩ := (hτ.2 0 _ v' rfl bb).inv_slice
    rw [he] at k1
    cases k1
    exact .slice h.next 0 n c e o1 c1 (Emb.add_self _ _ _) k2 k3 k4
  | succ i => simp at a

end Go.Ev
