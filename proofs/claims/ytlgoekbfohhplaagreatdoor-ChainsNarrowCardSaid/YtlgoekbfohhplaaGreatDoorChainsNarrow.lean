/-
  'ChainsNarrow' returns true for every list of integers, and leaves what was there as it was.
-/
import Derived.Test.YtlgoekbfohhplaaGreatDoorScopeX
import Derived.Below
namespace Go.Proofs.YtlgoekbfohhplaaGreatDoor
open Go.Ev Go.RowKit ScopeLaw

/-- What a slice of integers that came in reads as. -/
def IsRow (k : IntKind) (w : World) (a : Option Addr) (len cap : Nat) (zs : List Int) : Prop :=
  (a = none ∧ len = 0 ∧ cap = 0 ∧ zs = []) ∨
  ∃ x, a = some x ∧ len ≤ cap ∧ cap ≤ maxLen ∧ zs.length = cap ∧ (∀ i, i < zs.length → w.cell? (x.add i) = some (.int k (zs.getD i 0))) ∧ ∀ n ∈ zs, (Lit.int k n).wf = true

theorem IsRow.law {f : FuncId} (hF : ∀ zs : List Int, FnOK 0 Tryz.prog f ⟨[fz (intsV zs)]⟩ h0 (fun v _ => v = .bool true)) (a : Option Addr) (len cap : Nat) (zs : List Int) (w : World) (h : IsRow .i64 w a len cap zs) :
    Calls Tryz.prog f #[.slice a len cap] w fun e w' => e = .returned (.bool true) ∧ Below w.heap.size w w' := by
  refine FnOK.law (zs := zs) (hF _) ?_
  rcases h with h | ⟨x, h1, h2, _, h3, h4, _⟩
  · exact .inl h
  · exact .inr ⟨x, h1, h2, h3, h4⟩


theorem okAud_one {v : Value} (h : okAud v = true) : oneCell v = true := by
  unfold okAud at h
  split at h
  · rfl
  · rfl
  · cases h
theorem okSc_one {v : Value} (h : okSc v = true) : oneCell v = true := by
  unfold okSc at h
  split at h
  · rfl
  · rfl
  · cases h
theorem cells_one {c : Cl} (ha : okAud c.aud = true) (hs : okSc c.sc = true) : c.cells.all oneCell = true := by
  have e1 := okAud_one ha
  have e2 := okSc_one hs
  unfold Cl.cells
  simp only [List.all_cons, List.all_nil, e1, e2]
  rfl
theorem cells_p1 {c : Cl} (ha : okAud c.aud = true) (hs : okSc c.sc = true) : ∀ v ∈ c.cells, p1 v = true := by
  have e1 := okAud_p1 ha
  have e2 := okSc_p1 hs
  intro v hv
  simp only [Cl.cells, List.mem_cons, List.not_mem_nil, or_false] at hv
  rcases hv with rfl | rfl | rfl | rfl | rfl | rfl | rfl | rfl <;> first | rfl | assumption
theorem st1_ok {c : Cl} (h : c.Ok) {X : Prop} (hX : X) : st1 c X := need_mk (cells_one h.aud h.sc) hX
theorem covT_ok {L : Cl} {Z X : Prop} (hL : L.Ok) : ∀ l : List Cl, (∀ d ∈ l, d.Ok ∧ allV (unF d.sc) (unF L.sc) = true ∧ d.fr ≤ L.fr ∧ L.to ≤ d.to) → X → covT F0 L Z l X
  | [], _, hX => hX
  | d :: l, h, hX => by
    obtain ⟨k1, k2, k3, k4⟩ := h d (by simp)
    refine st1_ok k1 (need_mk ?_ (pick_f ?_ (pick_f (decide_eq_false (by omega)) (pick_f (decide_eq_false (by omega)) (covT_ok hL l (fun e he => h e (by simp [he])) hX)))))
    · show (okW d.sc && okW L.sc) = true
      rw [k1.w, hL.w]; rfl
    · show (!allV (unF d.sc) (unF L.sc)) = false
      rw [k2]; rfl
theorem ccT_ok {Y Z X : Prop} : ∀ l : List Cl, (∀ d ∈ l, d.Ok) → X → ccT F0 Y Z l X
  | [], _, hX => hX
  | c :: l, h, hX => by
    have k := h c (by simp)
    refine st1_ok k (need_mk ?_ (pick_f ?_ (ccT_ok l (fun e he => h e (by simp [he])) hX)))
    · show (inKey c.id && inKey c.sub && inKey c.iss && okPar c.par && okAud c.aud && okSc c.sc) = true
      rw [k.id, k.sub, k.iss, k.par, k.aud, k.sc]; rfl
    · show (ccE c.fr c.to != 0) = false
      rw [k.time]; rfl
theorem idT_ok {Z X : Prop} {c : Cl} : ∀ l : List Cl, (∀ o ∈ l, (o.id.toList == c.id.toList) = false) → X → idT Z c l X
  | [], _, hX => hX
  | o :: l, h, hX => pick_f (h o (by simp)) (idT_ok l (fun e he => h e (by simp [he])) hX)
def Links : Cl → List Cl → Prop
  | _, [] => True
  | p, c :: l => Cl.Next p c ∧ Links c l
theorem beq_f {b : Bool} (h : b = true) : (!b) = false := by rw [h]; rfl
theorem self_beq (s : ByteArray) : (s.toList == s.toList) = true := by simp
theorem chT_ok {Z X : Prop} : ∀ (rest seen : List Cl) (p : Cl), p.Ok → (∀ c ∈ rest, c.Ok) → Links p rest → (∀ o ∈ seen, ∀ c ∈ rest, (o.id.toList == c.id.toList) = false) → rest.Pairwise (fun a b => (a.id.toList == b.id.toList) = false) → X → chT F0 Z rest seen p X
  | [], _, _, _, _, _, _, _, hX => hX
  | c :: rest, seen, p, hp, hc, hl, hs, hd, hX => by
    have kc := hc c (by simp)
    obtain ⟨n, hl⟩ := hl
    obtain ⟨d1, d2⟩ := List.pairwise_cons.1 hd
    refine st1_ok kc (st1_ok hp (pick_f ?_ (idT_ok seen (fun o ho => hs o ho c (by simp)) (pick_f ?_ (need_mk ?_ (pick_f ?_ (need_mk ?_ (pick_f ?_ (pick_f (decide_eq_false (by have := n.fr; omega)) (pick_f (decide_eq_false (by have := n.to; omega))
      (chT_ok rest (seen ++ [c]) c kc (fun e he => hc e (by simp [he])) hl ?_ d2 hX)))))))))))
    · rw [n.par]; exact beq_f (self_beq _)
    · rw [n.iss]; exact beq_f (self_beq _)
    · show (okAud c.aud && okAud p.aud) = true
      rw [kc.aud, hp.aud]; rfl
    · show (!eqS (unF c.aud) (unF p.aud)) = false
      rw [n.aud, eqS_self]; rfl
    · show (okW p.sc && okW c.sc) = true
      rw [hp.w, kc.w]; rfl
    · show (!allV (unF p.sc) (unF c.sc)) = false
      rw [n.sc]; rfl
    · intro o ho e he
      rcases List.mem_append.1 ho with q | q
      · exact hs o q e (by simp [he])
      · rw [List.mem_singleton.1 q]; exact d1 e he
theorem fin_ok {c0 L : Cl} {rest : List Cl} {Q : Value → Prop} (hok : ∀ c ∈ c0 :: rest, c.Ok) (hL : L.Ok) (hcov : ∀ d ∈ c0 :: rest, allV (unF d.sc) (unF L.sc) = true ∧ d.fr ≤ L.fr ∧ L.to ≤ d.to) (hp : c0.par = noS) (hl : Links c0 rest)
    (hd : (c0 :: rest).Pairwise (fun a b => (a.id.toList == b.id.toList) = false)) (hQ : Q (.bool true)) : finT F0 c0 rest L Q := by
  obtain ⟨d1, d2⟩ := List.pairwise_cons.1 hd
  refine st1_ok hL (covT_ok hL _ (fun d h => ⟨hok d h, hcov d h⟩) (ccT_ok _ hok (pick_f ?_ (chT_ok rest [c0] c0 (hok c0 (by simp)) (fun c hc => hok c (by simp [hc])) hl (fun o ho c hc => by rw [List.mem_singleton.1 ho]; exact d1 c hc) d2 hQ))))
  rw [hp]; exact beq_f (self_beq _)

/-- What is made of claims. -/
noncomputable def newC (xs : Array Value) (d : Int) (idn : ByteArray) (L : Cl) : Cl := ⟨idn, botS, L.iss, L.id, L.aud, leV (rsW xs d), rdW xs d L.fr, L.to⟩
noncomputable def errC (xs : Array Value) (d : Int) (idn : ByteArray) (L : Cl) : Int := rdE F0 xs d idn L.id L.sc L.fr L.to
theorem rdC_new {xs : Array Value} {d : Int} {idn : ByteArray} {L : Cl} (h : errC xs d idn L = 0) : rdC F0 xs d idn L.id L.iss L.aud L.sc L.fr L.to = (newC xs d idn L).cells := by
  unfold errC at h
  unfold rdC
  rw [h]
  rfl
theorem ccE_zero {a b : Int} (h : ccE a b = 0) : 0 ≤ a ∧ a < b := by
  unfold ccE at h
  split at h
  · omega
  · split at h <;> omega
theorem dE_zero {id0 id : ByteArray} {psc scs : Value} {fr to wf wt : Int} (h : dE id0 id psc scs fr to wf wt = 0) : allV (unF psc) (unF scs) = true ∧ fr ≤ wf ∧ wt ≤ to ∧ ccE wf wt = 0 := by
  unfold dE at h
  cases c1 : (ccE fr to != 0) with
  | true =>
    rw [c1, cond_true] at h
    rw [h] at c1
    cases c1
  | false =>
    rw [c1, cond_false] at h
    cases c2 : (id.toList == id0.toList) with
    | true => rw [c2, cond_true] at h; cases h
    | false =>
      rw [c2, cond_false] at h
      cases c3 : (!allV (unF psc) (unF scs)) with
      | true => rw [c3, cond_true] at h; cases h
      | false =>
        rw [c3, cond_false] at h
        cases c4 : decide (wf < fr) with
        | true => rw [c4, cond_true] at h; cases h
        | false =>
          rw [c4, cond_false] at h
          cases c5 : decide (wt > to) with
          | true => rw [c5, cond_true] at h; cases h
          | false =>
            rw [c5, cond_false] at h
            have := of_decide_eq_false c4
            have := of_decide_eq_false c5
            exact ⟨by simpa using c3, by omega, by omega, h⟩
theorem unF_le {v : Value} (h : okScs v = true) {a : List Value} (h2 : allV a (unF v) = true) : allV a (unF (leV v)) = true := by
  unfold okScs at h
  split at h
  · exact h2
  · exact allV_least h2
  · cases h
theorem bot_key : inKey botS = true := by decide
theorem new_ok {zs : List Int} {d : Int} {idn : ByteArray} {L : Cl} (hL : L.Ok) (h0 : 0 ≤ d) (h1 : d ≤ 1000) (hk : inKey idn = true) (h : errC (intsV zs) d idn L = 0) : (newC (intsV zs) d idn L).Ok ∧ Cl.Next L (newC (intsV zs) d idn L) := by
  have he := scE_in zs h0 (by omega)
  have hb := (nextR_spec zs 2 (scE (intsV zs) d) (by omega) (by omega) (by omega) (by omega)).1
  have hs := rsW_ok zs h0 (show d ≤ 100000 by omega)
  obtain ⟨z1, z2, z3, z4⟩ := dE_zero (show dE L.id idn L.sc (rsW (intsV zs) d) L.fr L.to (rdW (intsV zs) d L.fr) L.to = 0 from h)
  have z5 := ccE_zero z4
  refine ⟨⟨hk, bot_key, hL.iss, by show okPar L.id = true; unfold okPar; rw [hL.id, Bool.or_true], hL.aud, okScs_sc hs, z4, z5.1, z5.2, hL.to⟩, ⟨rfl, rfl, rfl, unF_le hs z1, z2, Int.le_refl _⟩⟩
theorem rdT_ok {zs : List Int} {d : Int} {idn : ByteArray} {L : Cl} (hL : L.Ok) (h0 : 0 ≤ d) (h1 : d ≤ 1000) (hk : inKey idn = true) {X Y Z : Prop} (hN : errC (intsV zs) d idn L ≠ 0 → Y) (hS : errC (intsV zs) d idn L = 0 → Z) :
    rdT F0 (intsV zs) d idn L.id L.sub L.iss L.par L.aud L.sc L.fr L.to X Y Z := by
  have he := scE_in zs h0 (by omega)
  have hs := rsW_ok zs h0 (show d ≤ 100000 by omega)
  have hone : (rdC F0 (intsV zs) d idn L.id L.iss L.aud L.sc L.fr L.to).all oneCell = true := by
    unfold rdC
    have e1 := okAud_one hL.aud
    have e2 := okSc_one (okScs_sc hs)
    cases (rdE F0 (intsV zs) d idn L.id L.sc L.fr L.to == 0) with
    | true =>
      show List.all [_, _, _, _, L.aud, leV (rsW (intsV zs) d), _, _] oneCell = true
      simp only [List.all_cons, List.all_nil, e1, e2]
      rfl
    | false => rfl
  refine need_mk (cells_one (c := L) hL.aud hL.sc) (need_mk (by rw [allInts_intsV]; simp; omega) (need_mk (by rw [allInts_intsV]; simp; omega) (need_mk ?_ (need_mk hone ?_))))
  · show (inKey L.id && inKey L.sub && inKey L.iss && okPar L.par && okAud L.aud && okSc L.sc && inKey idn && inKey botS && okScs (rsW (intsV zs) d)) = true
    rw [hL.id, hL.sub, hL.iss, hL.par, hL.aud, hL.sc, hk, bot_key, hs]; rfl
  · by_cases hz : errC (intsV zs) d idn L = 0
    · have h1 : (rdE F0 (intsV zs) d idn L.id L.sc L.fr L.to != 0) = false := by
        have : rdE F0 (intsV zs) d idn L.id L.sc L.fr L.to = 0 := hz
        rw [this]; rfl
      exact pick_f h1 (need_mk hone (hS hz))
    · have h1 : (rdE F0 (intsV zs) d idn L.id L.sc L.fr L.to == 0) = false := beq_eq_false_iff_ne.2 hz
      refine pick_t (by rw [bne, h1]; rfl) (pick_f ?_ (hN hz))
      rw [h1]
      exact beq_f (self_beq _)
/-- The first claims. -/
noncomputable def fstC (xs : Array Value) : Cl := ⟨rcId xs, rcSub xs, rcIss xs, noS, wAud (nextR xs 4 5), leV (rsW xs 5), rcFr xs, rcTo xs⟩
def id0L : List ByteArray := [⟨#[116, 49]⟩, ⟨#[116, 50]⟩, ⟨#[116, 51]⟩]
theorem fst_ok (zs : List Int) : (fstC (intsV zs)).Ok ∧ rcId (intsV zs) ∈ id0L := by
  have h5 := scE_in zs (d := 5) (by omega) (by omega)
  have b0 := (nextR_spec zs 4 0 (by omega) (by omega) (by omega) (by omega)).1
  have b1 := (nextR_spec zs 2 1 (by omega) (by omega) (by omega) (by omega)).1
  have b2 := (nextR_spec zs 4 2 (by omega) (by omega) (by omega) (by omega)).1
  have b4 := (nextR_spec zs 5 4 (by omega) (by omega) (by omega) (by omega)).1
  have b5 := (nextR_spec zs 3 (scE (intsV zs) 5) (by omega) (by omega) (by omega) (by omega)).1
  have b6 := (nextR_spec zs 4 (scE (intsV zs) 5 + 1) (by omega) (by omega) (by omega) (by omega)).1
  have i0 : inKey (rcId (intsV zs)) = true ∧ rcId (intsV zs) ∈ id0L := by
    unfold rcId
    have : nextR (intsV zs) 0 4 = 0 ∨ nextR (intsV zs) 0 4 = 1 ∨ nextR (intsV zs) 0 4 = 2 ∨ nextR (intsV zs) 0 4 = 3 := by omega
    rcases this with h | h | h | h <;> rw [h] <;> exact ⟨by decide, by simp [id0L, toStr]⟩
  have i1 : inKey (rcSub (intsV zs)) = true := by
    unfold rcSub
    have : nextR (intsV zs) 1 2 = 0 ∨ nextR (intsV zs) 1 2 = 1 := by omega
    rcases this with h | h <;> rw [h] <;> decide
  have i2 : inKey (rcIss (intsV zs)) = true := by
    unfold rcIss
    have : nextR (intsV zs) 2 4 = 0 ∨ nextR (intsV zs) 2 4 = 1 ∨ nextR (intsV zs) 2 4 = 2 ∨ nextR (intsV zs) 2 4 = 3 := by omega
    rcases this with h | h | h | h <;> rw [h] <;> decide
  have i4 : okAud (wAud (nextR (intsV zs) 4 5)) = true := by
    have : nextR (intsV zs) 4 5 = 0 ∨ nextR (intsV zs) 4 5 = 1 ∨ nextR (intsV zs) 4 5 = 2 ∨ nextR (intsV zs) 4 5 = 3 ∨ nextR (intsV zs) 4 5 = 4 := by omega
    rcases this with h | h | h | h | h <;> rw [h] <;> first | rfl | exact audB_iff.2 (by simp [audL])
  have i5 : 0 ≤ rcFr (intsV zs) ∧ rcFr (intsV zs) ≤ 100 := by
    unfold rcFr
    have : nextR (intsV zs) (scE (intsV zs) 5) 3 = 0 ∨ nextR (intsV zs) (scE (intsV zs) 5) 3 = 1 ∨ nextR (intsV zs) (scE (intsV zs) 5) 3 = 2 := by omega
    rcases this with h | h | h <;> rw [h] <;> decide
  have i6 : 1 ≤ rcDt (intsV zs) ∧ rcDt (intsV zs) ≤ 200 := by
    unfold rcDt
    have : nextR (intsV zs) (scE (intsV zs) 5 + 1) 4 = 0 ∨ nextR (intsV zs) (scE (intsV zs) 5 + 1) 4 = 1 ∨ nextR (intsV zs) (scE (intsV zs) 5 + 1) 4 = 2 ∨ nextR (intsV zs) (scE (intsV zs) 5 + 1) 4 = 3 := by omega
    rcases this with h | h | h | h <;> rw [h] <;> decide
  have i7 : rcTo (intsV zs) = rcFr (intsV zs) + rcDt (intsV zs) := wrap_id _ (by omega) (by omega)
  have hc : ccE (rcFr (intsV zs)) (rcTo (intsV zs)) = 0 := by
    unfold ccE
    rw [i7, if_neg (by omega), if_neg (by omega), if_neg (by omega)]
  exact ⟨⟨i0.1, i1, i2, (by show okPar noS = true; unfold okPar; rw [show (noS.toList == (ByteArray.mk #[]).toList) = true from self_beq _]; rfl), i4, okScs_sc (rsW_ok zs (by omega) (by omega)), hc, i5.1, by show rcFr _ < rcTo _; omega, by show rcTo _ ≤ 1000; omega⟩, i0.2⟩
theorem one6c : (loopAt (codeOf Tryz.f4) 6).length = 1 := by kernel_rfl
theorem some4 : Tryz.f4.body.isSome = true := by kernel_rfl
def t7 : ByteArray := ⟨#[116, 55]⟩
def t8 : ByteArray := ⟨#[116, 56]⟩
def t9 : ByteArray := ⟨#[116, 57]⟩
theorem id0_ne {s : ByteArray} (h : s ∈ id0L) : (s.toList == t7.toList) = false ∧ (s.toList == t8.toList) = false ∧ (s.toList == t9.toList) = false := by
  simp only [id0L, List.mem_cons, List.not_mem_nil, or_false] at h
  rcases h with rfl | rfl | rfl <;> exact ⟨by decide +kernel, by decide +kernel, by decide +kernel⟩
theorem t78 : (t7.toList == t8.toList) = false := by decide +kernel
theorem t79 : (t7.toList == t9.toList) = false := by decide +kernel
theorem t89 : (t8.toList == t9.toList) = false := by decide +kernel
noncomputable def it (n : Nat) (vals : List Value) (h : AH) (K : AExit → List Value → AH → Prop) : Prop := iter 0 Tryz.prog (SLf F0) [] noHooks 3000 109 [3, 5, 24, 25, 26] [1] [5] [0] (oneLoop (codeOf Tryz.f4) 6) n vals h K
theorem itS (n : Nat) {vals : List Value} {h : AH} {K : AExit → List Value → AH → Prop} {R : Prop} (e : once 0 Tryz.prog (SLf F0) [] noHooks 3000 109 [3, 5, 24, 25, 26] [1] [5] [0] (oneLoop (codeOf Tryz.f4) 6) vals h (fun v g => it n v g K) K = R) (hR : R) : it (n + 1) vals h K := by
  rw [← e] at hR
  exact hR
theorem itI {n : Nat} {vals : List Value} {h : AH} {K : AExit → List Value → AH → Prop} (a : it n vals h K) : ∃ n, iter 0 Tryz.prog (SLf F0) [] noHooks 3000 109 [3, 5, 24, 25, 26] [1] [5] [0] (oneLoop (codeOf Tryz.f4) 6) n vals h K := ⟨n, a⟩
theorem nn_cells {cs : List Cl} (h : ∀ c ∈ cs, c.Ok) : NoNames (.cells ⟨cs.flatMap Cl.cells⟩ 39 (0, 0)) := by
  intro v hv
  obtain ⟨c, hc, hvc⟩ := List.mem_flatMap.1 (show v ∈ cs.flatMap Cl.cells from hv)
  exact cells_p1 (h c hc).aud (h c hc).sc v hvc
theorem beg_ok {zs : List Int} {C : List Value → AH → Prop} {X : Prop} (hC : C (rdV 1 0) (rdH (intsV zs) (scE (intsV zs) 5 + 1 + 1) (fstC (intsV zs)).cells)) (hX : X) : begT F0 (intsV zs) C X := by
  have hf := (fst_ok zs).1
  refine need_mk (allInts_intsV zs) (need_mk ?_ ⟨cells_p1 hf.aud hf.sc, hC, hX⟩)
  have e1 := okAud_one hf.aud
  have e2 := okSc_one hf.sc
  show List.all [_, _, _, _, (fstC (intsV zs)).aud, (fstC (intsV zs)).sc, _, _] oneCell = true
  simp only [List.all_cons, List.all_nil, e1, e2]
  rfl
attribute [local irreducible] rdT it
theorem path000 (zs : List Int) (y0 : errC (intsV zs) (scE (intsV zs) 5 + 1 + 1) t7 (fstC (intsV zs)) ≠ 0) (y1 : errC (intsV zs) (scE (intsV zs) (scE (intsV zs) 5 + 1 + 1) + 1) t8 (fstC (intsV zs)) ≠ 0) (y2 : errC (intsV zs) (scE (intsV zs) (scE (intsV zs) (scE (intsV zs) 5 + 1 + 1) + 1) + 1) t9 (fstC (intsV zs)) ≠ 0) : FnOK 0 Tryz.prog 4 ⟨[fz (intsV zs)]⟩ h0 (fun v _ => v = .bool true) := by
  obtain ⟨hf, hid⟩ := fst_ok zs
  obtain ⟨n7, n8, n9⟩ := id0_ne hid
  have e0 := scE_in zs (d := 5) (by omega) (by omega)
  have e1 := scE_in zs (d := (scE (intsV zs) 5 + 1 + 1)) (by omega) (by omega)
  have e2 := scE_in zs (d := (scE (intsV zs) (scE (intsV zs) 5 + 1 + 1) + 1)) (by omega) (by omega)
  have e3 := scE_in zs (d := (scE (intsV zs) (scE (intsV zs) (scE (intsV zs) 5 + 1 + 1) + 1) + 1)) (by omega) (by omega)
  have hloop : ∀ K : AExit → List Value → AH → Prop, K (.exit 0) [.slice (some ⟨0, 0, none⟩) 1 1] (chH (([(fstC (intsV zs))] : List Cl).flatMap Cl.cells)) → ∃ n, iter 0 Tryz.prog (SLf F0) [] noHooks 3000 109 [3, 5, 24, 25, 26] [1] [5] [0] (oneLoop (codeOf Tryz.f4) 6) n (rdV 1 0) (rdH (intsV zs) (scE (intsV zs) 5 + 1 + 1) (fstC (intsV zs)).cells) K := by
    intro K hK
    refine itI (n := 3 + 1) ?_
    have e := rd10 F0 (intsV zs) (scE (intsV zs) 5 + 1 + 1) (fstC (intsV zs)).id (fstC (intsV zs)).sub (fstC (intsV zs)).iss (fstC (intsV zs)).par (fstC (intsV zs)).aud (fstC (intsV zs)).sc (fstC (intsV zs)).fr (fstC (intsV zs)).to (fun v g => it 3 v g K) K
    refine itS 3 e ?_
    refine (rdT_ok (L := (fstC (intsV zs))) hf (by omega) (by omega) (by decide) (fun _ => ?_) (fun q => absurd q y0))
    refine ⟨nn_cells (cs := [(fstC (intsV zs))]) (fun c hc => by rw [List.mem_singleton.1 hc]; assumption), ?_⟩
    have e := rd11 F0 (intsV zs) (scE (intsV zs) (scE (intsV zs) 5 + 1 + 1) + 1) (fstC (intsV zs)).id (fstC (intsV zs)).sub (fstC (intsV zs)).iss (fstC (intsV zs)).par (fstC (intsV zs)).aud (fstC (intsV zs)).sc (fstC (intsV zs)).fr (fstC (intsV zs)).to (fun v g => it 2 v g K) K
    refine itS 2 e ?_
    refine (rdT_ok (L := (fstC (intsV zs))) hf (by omega) (by omega) (by decide) (fun _ => ?_) (fun q => absurd q y1))
    refine ⟨nn_cells (cs := [(fstC (intsV zs))]) (fun c hc => by rw [List.mem_singleton.1 hc]; assumption), ?_⟩
    have e := rd12 F0 (intsV zs) (scE (intsV zs) (scE (intsV zs) (scE (intsV zs) 5 + 1 + 1) + 1) + 1) (fstC (intsV zs)).id (fstC (intsV zs)).sub (fstC (intsV zs)).iss (fstC (intsV zs)).par (fstC (intsV zs)).aud (fstC (intsV zs)).sc (fstC (intsV zs)).fr (fstC (intsV zs)).to (fun v g => it 1 v g K) K
    refine itS 1 e ?_
    refine (rdT_ok (L := (fstC (intsV zs))) hf (by omega) (by omega) (by decide) (fun _ => ?_) (fun q => absurd q y2))
    refine ⟨nn_cells (cs := [(fstC (intsV zs))]) (fun c hc => by rw [List.mem_singleton.1 hc]; assumption), ?_⟩
    exact itS 0 (rdx F0 (intsV zs) (scE (intsV zs) (scE (intsV zs) (scE (intsV zs) (scE (intsV zs) 5 + 1 + 1) + 1) + 1) + 1) 1 (([(fstC (intsV zs))] : List Cl).flatMap Cl.cells) _ K) ⟨nn_cells (cs := [(fstC (intsV zs))]) (fun c hc => by rw [List.mem_singleton.1 hc]; assumption), hK⟩
  have hC : LoopsOK 0 Tryz.prog 109 (Lch (fun vals h => vals = rdV 1 0 ∧ h = rdH (intsV zs) (scE (intsV zs) 5 + 1 + 1) (fstC (intsV zs)).cells) 1 (([(fstC (intsV zs))] : List Cl).flatMap Cl.cells)) (codeOf Tryz.f4) := by
    refine loops_one one6c (hook_ok (G := []) (L := noHooks) (f := 3000) (sameX := [0]) SLf_ok mixed (by decide) (loops_none _ _ _ _) ?_)
    rintro vals h K ⟨⟨rfl, rfl⟩, hK⟩
    exact hloop K hK
  refine FnOK.ttree SLf_ok mixed Tryz.func4 some4 hC (fin1 F0 (intsV zs) (fstC (intsV zs)).id (fstC (intsV zs)).sub (fstC (intsV zs)).iss (fstC (intsV zs)).par (fstC (intsV zs)).aud (fstC (intsV zs)).sc (fstC (intsV zs)).fr (fstC (intsV zs)).to _ (fun v => v = .bool true)) (beg_ok ⟨rfl, rfl⟩ ?_)
  have cl : allV (unF (fstC (intsV zs)).sc) (unF (fstC (intsV zs)).sc) = true := allV_refl hf.ten
  refine fin_ok (c0 := (fstC (intsV zs))) (rest := []) (L := (fstC (intsV zs))) (fun c hc => by rw [List.mem_singleton.1 hc]; assumption) hf ?_ rfl trivial ?_ rfl
  · intro e he
    simp only [List.mem_cons, List.not_mem_nil, or_false] at he
    subst he
    exact ⟨cl, Int.le_refl _, Int.le_refl _⟩
  · simp
theorem path001 (zs : List Int) (y0 : errC (intsV zs) (scE (intsV zs) 5 + 1 + 1) t7 (fstC (intsV zs)) ≠ 0) (y1 : errC (intsV zs) (scE (intsV zs) (scE (intsV zs) 5 + 1 + 1) + 1) t8 (fstC (intsV zs)) ≠ 0) (y2 : errC (intsV zs) (scE (intsV zs) (scE (intsV zs) (scE (intsV zs) 5 + 1 + 1) + 1) + 1) t9 (fstC (intsV zs)) = 0) : FnOK 0 Tryz.prog 4 ⟨[fz (intsV zs)]⟩ h0 (fun v _ => v = .bool true) := by
  obtain ⟨hf, hid⟩ := fst_ok zs
  obtain ⟨n7, n8, n9⟩ := id0_ne hid
  have e0 := scE_in zs (d := 5) (by omega) (by omega)
  have e1 := scE_in zs (d := (scE (intsV zs) 5 + 1 + 1)) (by omega) (by omega)
  have e2 := scE_in zs (d := (scE (intsV zs) (scE (intsV zs) 5 + 1 + 1) + 1)) (by omega) (by omega)
  have e3 := scE_in zs (d := (scE (intsV zs) (scE (intsV zs) (scE (intsV zs) 5 + 1 + 1) + 1) + 1)) (by omega) (by omega)
  obtain ⟨k2, x2⟩ := new_ok (zs := zs) (d := (scE (intsV zs) (scE (intsV zs) (scE (intsV zs) 5 + 1 + 1) + 1) + 1)) (idn := t9) (L := (fstC (intsV zs))) hf (by omega) (by omega) (by decide) y2
  have hloop : ∀ K : AExit → List Value → AH → Prop, K (.exit 0) [.slice (some ⟨0, 0, none⟩) 2 2] (chH (([(fstC (intsV zs)), (newC (intsV zs) (scE (intsV zs) (scE (intsV zs) (scE (intsV zs) 5 + 1 + 1) + 1) + 1) t9 (fstC (intsV zs)))] : List Cl).flatMap Cl.cells)) → ∃ n, iter 0 Tryz.prog (SLf F0) [] noHooks 3000 109 [3, 5, 24, 25, 26] [1] [5] [0] (oneLoop (codeOf Tryz.f4) 6) n (rdV 1 0) (rdH (intsV zs) (scE (intsV zs) 5 + 1 + 1) (fstC (intsV zs)).cells) K := by
    intro K hK
    refine itI (n := 3 + 1) ?_
    have e := rd10 F0 (intsV zs) (scE (intsV zs) 5 + 1 + 1) (fstC (intsV zs)).id (fstC (intsV zs)).sub (fstC (intsV zs)).iss (fstC (intsV zs)).par (fstC (intsV zs)).aud (fstC (intsV zs)).sc (fstC (intsV zs)).fr (fstC (intsV zs)).to (fun v g => it 3 v g K) K
    refine itS 3 e ?_
    refine (rdT_ok (L := (fstC (intsV zs))) hf (by omega) (by omega) (by decide) (fun _ => ?_) (fun q => absurd q y0))
    refine ⟨nn_cells (cs := [(fstC (intsV zs))]) (fun c hc => by rw [List.mem_singleton.1 hc]; assumption), ?_⟩
    have e := rd11 F0 (intsV zs) (scE (intsV zs) (scE (intsV zs) 5 + 1 + 1) + 1) (fstC (intsV zs)).id (fstC (intsV zs)).sub (fstC (intsV zs)).iss (fstC (intsV zs)).par (fstC (intsV zs)).aud (fstC (intsV zs)).sc (fstC (intsV zs)).fr (fstC (intsV zs)).to (fun v g => it 2 v g K) K
    refine itS 2 e ?_
    refine (rdT_ok (L := (fstC (intsV zs))) hf (by omega) (by omega) (by decide) (fun _ => ?_) (fun q => absurd q y1))
    refine ⟨nn_cells (cs := [(fstC (intsV zs))]) (fun c hc => by rw [List.mem_singleton.1 hc]; assumption), ?_⟩
    have e := rd12 F0 (intsV zs) (scE (intsV zs) (scE (intsV zs) (scE (intsV zs) 5 + 1 + 1) + 1) + 1) (fstC (intsV zs)).id (fstC (intsV zs)).sub (fstC (intsV zs)).iss (fstC (intsV zs)).par (fstC (intsV zs)).aud (fstC (intsV zs)).sc (fstC (intsV zs)).fr (fstC (intsV zs)).to (fun v g => it 1 v g K) K
    refine itS 1 e ?_
    refine (rdT_ok (L := (fstC (intsV zs))) hf (by omega) (by omega) (by decide) (fun q => absurd y2 q) (fun _ => ?_))
    rw [show rdC F0 (intsV zs) (scE (intsV zs) (scE (intsV zs) (scE (intsV zs) 5 + 1 + 1) + 1) + 1) ⟨#[116, 57]⟩ (fstC (intsV zs)).id (fstC (intsV zs)).iss (fstC (intsV zs)).aud (fstC (intsV zs)).sc (fstC (intsV zs)).fr (fstC (intsV zs)).to = (newC (intsV zs) (scE (intsV zs) (scE (intsV zs) (scE (intsV zs) 5 + 1 + 1) + 1) + 1) t9 (fstC (intsV zs))).cells from rdC_new y2]
    refine ⟨nn_cells (cs := [(fstC (intsV zs)), (newC (intsV zs) (scE (intsV zs) (scE (intsV zs) (scE (intsV zs) 5 + 1 + 1) + 1) + 1) t9 (fstC (intsV zs)))]) (fun c hc => by simp only [List.mem_cons, List.not_mem_nil, or_false] at hc; rcases hc with rfl | rfl <;> assumption), ?_⟩
    exact itS 0 (rdx F0 (intsV zs) (scE (intsV zs) (scE (intsV zs) (scE (intsV zs) (scE (intsV zs) 5 + 1 + 1) + 1) + 1) + 1) 2 (([(fstC (intsV zs)), (newC (intsV zs) (scE (intsV zs) (scE (intsV zs) (scE (intsV zs) 5 + 1 + 1) + 1) + 1) t9 (fstC (intsV zs)))] : List Cl).flatMap Cl.cells) _ K) ⟨nn_cells (cs := [(fstC (intsV zs)), (newC (intsV zs) (scE (intsV zs) (scE (intsV zs) (scE (intsV zs) 5 + 1 + 1) + 1) + 1) t9 (fstC (intsV zs)))]) (fun c hc => by simp only [List.mem_cons, List.not_mem_nil, or_false] at hc; rcases hc with rfl | rfl <;> assumption), hK⟩
  have hC : LoopsOK 0 Tryz.prog 109 (Lch (fun vals h => vals = rdV 1 0 ∧ h = rdH (intsV zs) (scE (intsV zs) 5 + 1 + 1) (fstC (intsV zs)).cells) 2 (([(fstC (intsV zs)), (newC (intsV zs) (scE (intsV zs) (scE (intsV zs) (scE (intsV zs) 5 + 1 + 1) + 1) + 1) t9 (fstC (intsV zs)))] : List Cl).flatMap Cl.cells)) (codeOf Tryz.f4) := by
    refine loops_one one6c (hook_ok (G := []) (L := noHooks) (f := 3000) (sameX := [0]) SLf_ok mixed (by decide) (loops_none _ _ _ _) ?_)
    rintro vals h K ⟨⟨rfl, rfl⟩, hK⟩
    exact hloop K hK
  refine FnOK.ttree SLf_ok mixed Tryz.func4 some4 hC (fin2 F0 (intsV zs) (fstC (intsV zs)).id (fstC (intsV zs)).sub (fstC (intsV zs)).iss (fstC (intsV zs)).par (fstC (intsV zs)).aud (fstC (intsV zs)).sc (fstC (intsV zs)).fr (fstC (intsV zs)).to (newC (intsV zs) (scE (intsV zs) (scE (intsV zs) (scE (intsV zs) 5 + 1 + 1) + 1) + 1) t9 (fstC (intsV zs))).id (newC (intsV zs) (scE (intsV zs) (scE (intsV zs) (scE (intsV zs) 5 + 1 + 1) + 1) + 1) t9 (fstC (intsV zs))).sub (newC (intsV zs) (scE (intsV zs) (scE (intsV zs) (scE (intsV zs) 5 + 1 + 1) + 1) + 1) t9 (fstC (intsV zs))).iss (newC (intsV zs) (scE (intsV zs) (scE (intsV zs) (scE (intsV zs) 5 + 1 + 1) + 1) + 1) t9 (fstC (intsV zs))).par (newC (intsV zs) (scE (intsV zs) (scE (intsV zs) (scE (intsV zs) 5 + 1 + 1) + 1) + 1) t9 (fstC (intsV zs))).aud (newC (intsV zs) (scE (intsV zs) (scE (intsV zs) (scE (intsV zs) 5 + 1 + 1) + 1) + 1) t9 (fstC (intsV zs))).sc (newC (intsV zs) (scE (intsV zs) (scE (intsV zs) (scE (intsV zs) 5 + 1 + 1) + 1) + 1) t9 (fstC (intsV zs))).fr (newC (intsV zs) (scE (intsV zs) (scE (intsV zs) (scE (intsV zs) 5 + 1 + 1) + 1) + 1) t9 (fstC (intsV zs))).to _ (fun v => v = .bool true)) (beg_ok ⟨rfl, rfl⟩ ?_)
  have cl : allV (unF (newC (intsV zs) (scE (intsV zs) (scE (intsV zs) (scE (intsV zs) 5 + 1 + 1) + 1) + 1) t9 (fstC (intsV zs))).sc) (unF (newC (intsV zs) (scE (intsV zs) (scE (intsV zs) (scE (intsV zs) 5 + 1 + 1) + 1) + 1) t9 (fstC (intsV zs))).sc) = true := allV_refl k2.ten
  have c0 : allV (unF (fstC (intsV zs)).sc) (unF (newC (intsV zs) (scE (intsV zs) (scE (intsV zs) (scE (intsV zs) 5 + 1 + 1) + 1) + 1) t9 (fstC (intsV zs))).sc) = true := allV_trans hf.ten k2.ten k2.ten x2.sc cl
  have f2 := x2.fr
  have g2 := x2.to
  refine fin_ok (c0 := (fstC (intsV zs))) (rest := [(newC (intsV zs) (scE (intsV zs) (scE (intsV zs) (scE (intsV zs) 5 + 1 + 1) + 1) + 1) t9 (fstC (intsV zs)))]) (L := (newC (intsV zs) (scE (intsV zs) (scE (intsV zs) (scE (intsV zs) 5 + 1 + 1) + 1) + 1) t9 (fstC (intsV zs)))) (fun c hc => by simp only [List.mem_cons, List.not_mem_nil, or_false] at hc; rcases hc with rfl | rfl <;> assumption) k2 ?_ rfl ⟨x2, trivial⟩ ?_ rfl
  · intro e he
    simp only [List.mem_cons, List.not_mem_nil, or_false] at he
    rcases he with rfl | rfl
    · exact ⟨c0, by omega, by omega⟩
    · exact ⟨cl, by omega, by omega⟩
  · simp only [List.pairwise_cons, List.mem_cons, List.not_mem_nil, or_false, List.Pairwise.nil, and_true, forall_eq, false_imp_iff, implies_true]
    exact n9
theorem path010 (zs : List Int) (y0 : errC (intsV zs) (scE (intsV zs) 5 + 1 + 1) t7 (fstC (intsV zs)) ≠ 0) (y1 : errC (intsV zs) (scE (intsV zs) (scE (intsV zs) 5 + 1 + 1) + 1) t8 (fstC (intsV zs)) = 0) (y2 : errC (intsV zs) (scE (intsV zs) (scE (intsV zs) (scE (intsV zs) 5 + 1 + 1) + 1) + 1) t9 (newC (intsV zs) (scE (intsV zs) (scE (intsV zs) 5 + 1 + 1) + 1) t8 (fstC (intsV zs))) ≠ 0) : FnOK 0 Tryz.prog 4 ⟨[fz (intsV zs)]⟩ h0 (fun v _ => v = .bool true) := by
  obtain ⟨hf, hid⟩ := fst_ok zs
  obtain ⟨n7, n8, n9⟩ := id0_ne hid
  have e0 := scE_in zs (d := 5) (by omega) (by omega)
  have e1 := scE_in zs (d := (scE (intsV zs) 5 + 1 + 1)) (by omega) (by omega)
  have e2 := scE_in zs (d := (scE (intsV zs) (scE (intsV zs) 5 + 1 + 1) + 1)) (by omega) (by omega)
  have e3 := scE_in zs (d := (scE (intsV zs) (scE (intsV zs) (scE (intsV zs) 5 + 1 + 1) + 1) + 1)) (by omega) (by omega)
  obtain ⟨k1, x1⟩ := new_ok (zs := zs) (d := (scE (intsV zs) (scE (intsV zs) 5 + 1 + 1) + 1)) (idn := t8) (L := (fstC (intsV zs))) hf (by omega) (by omega) (by decide) y1
  have hloop : ∀ K : AExit → List Value → AH → Prop, K (.exit 0) [.slice (some ⟨0, 0, none⟩) 2 2] (chH (([(fstC (intsV zs)), (newC (intsV zs) (scE (intsV zs) (scE (intsV zs) 5 + 1 + 1) + 1) t8 (fstC (intsV zs)))] : List Cl).flatMap Cl.cells)) → ∃ n, iter 0 Tryz.prog (SLf F0) [] noHooks 3000 109 [3, 5, 24, 25, 26] [1] [5] [0] (oneLoop (codeOf Tryz.f4) 6) n (rdV 1 0) (rdH (intsV zs) (scE (intsV zs) 5 + 1 + 1) (fstC (intsV zs)).cells) K := by
    intro K hK
    refine itI (n := 3 + 1) ?_
    have e := rd10 F0 (intsV zs) (scE (intsV zs) 5 + 1 + 1) (fstC (intsV zs)).id (fstC (intsV zs)).sub (fstC (intsV zs)).iss (fstC (intsV zs)).par (fstC (intsV zs)).aud (fstC (intsV zs)).sc (fstC (intsV zs)).fr (fstC (intsV zs)).to (fun v g => it 3 v g K) K
    refine itS 3 e ?_
    refine (rdT_ok (L := (fstC (intsV zs))) hf (by omega) (by omega) (by decide) (fun _ => ?_) (fun q => absurd q y0))
    refine ⟨nn_cells (cs := [(fstC (intsV zs))]) (fun c hc => by rw [List.mem_singleton.1 hc]; assumption), ?_⟩
    have e := rd11 F0 (intsV zs) (scE (intsV zs) (scE (intsV zs) 5 + 1 + 1) + 1) (fstC (intsV zs)).id (fstC (intsV zs)).sub (fstC (intsV zs)).iss (fstC (intsV zs)).par (fstC (intsV zs)).aud (fstC (intsV zs)).sc (fstC (intsV zs)).fr (fstC (intsV zs)).to (fun v g => it 2 v g K) K
    refine itS 2 e ?_
    refine (rdT_ok (L := (fstC (intsV zs))) hf (by omega) (by omega) (by decide) (fun q => absurd y1 q) (fun _ => ?_))
    rw [show rdC F0 (intsV zs) (scE (intsV zs) (scE (intsV zs) 5 + 1 + 1) + 1) ⟨#[116, 56]⟩ (fstC (intsV zs)).id (fstC (intsV zs)).iss (fstC (intsV zs)).aud (fstC (intsV zs)).sc (fstC (intsV zs)).fr (fstC (intsV zs)).to = (newC (intsV zs) (scE (intsV zs) (scE (intsV zs) 5 + 1 + 1) + 1) t8 (fstC (intsV zs))).cells from rdC_new y1]
    refine ⟨nn_cells (cs := [(fstC (intsV zs)), (newC (intsV zs) (scE (intsV zs) (scE (intsV zs) 5 + 1 + 1) + 1) t8 (fstC (intsV zs)))]) (fun c hc => by simp only [List.mem_cons, List.not_mem_nil, or_false] at hc; rcases hc with rfl | rfl <;> assumption), ?_⟩
    have e := rd22 F0 (intsV zs) (scE (intsV zs) (scE (intsV zs) (scE (intsV zs) 5 + 1 + 1) + 1) + 1) (.string (fstC (intsV zs)).id) (.string (fstC (intsV zs)).sub) (.string (fstC (intsV zs)).iss) (.string (fstC (intsV zs)).par) (fstC (intsV zs)).aud (fstC (intsV zs)).sc (.int .i64 (fstC (intsV zs)).fr) (.int .i64 (fstC (intsV zs)).to) (newC (intsV zs) (scE (intsV zs) (scE (intsV zs) 5 + 1 + 1) + 1) t8 (fstC (intsV zs))).id (newC (intsV zs) (scE (intsV zs) (scE (intsV zs) 5 + 1 + 1) + 1) t8 (fstC (intsV zs))).sub (newC (intsV zs) (scE (intsV zs) (scE (intsV zs) 5 + 1 + 1) + 1) t8 (fstC (intsV zs))).iss (newC (intsV zs) (scE (intsV zs) (scE (intsV zs) 5 + 1 + 1) + 1) t8 (fstC (intsV zs))).par (newC (intsV zs) (scE (intsV zs) (scE (intsV zs) 5 + 1 + 1) + 1) t8 (fstC (intsV zs))).aud (newC (intsV zs) (scE (intsV zs) (scE (intsV zs) 5 + 1 + 1) + 1) t8 (fstC (intsV zs))).sc (newC (intsV zs) (scE (intsV zs) (scE (intsV zs) 5 + 1 + 1) + 1) t8 (fstC (intsV zs))).fr (newC (intsV zs) (scE (intsV zs) (scE (intsV zs) 5 + 1 + 1) + 1) t8 (fstC (intsV zs))).to (fun v g => it 1 v g K) K
    refine itS 1 e ?_
    refine (rdT_ok (L := (newC (intsV zs) (scE (intsV zs) (scE (intsV zs) 5 + 1 + 1) + 1) t8 (fstC (intsV zs)))) k1 (by omega) (by omega) (by decide) (fun _ => ?_) (fun q => absurd q y2))
    refine ⟨nn_cells (cs := [(fstC (intsV zs)), (newC (intsV zs) (scE (intsV zs) (scE (intsV zs) 5 + 1 + 1) + 1) t8 (fstC (intsV zs)))]) (fun c hc => by simp only [List.mem_cons, List.not_mem_nil, or_false] at hc; rcases hc with rfl | rfl <;> assumption), ?_⟩
    exact itS 0 (rdx F0 (intsV zs) (scE (intsV zs) (scE (intsV zs) (scE (intsV zs) (scE (intsV zs) 5 + 1 + 1) + 1) + 1) + 1) 2 (([(fstC (intsV zs)), (newC (intsV zs) (scE (intsV zs) (scE (intsV zs) 5 + 1 + 1) + 1) t8 (fstC (intsV zs)))] : List Cl).flatMap Cl.cells) _ K) ⟨nn_cells (cs := [(fstC (intsV zs)), (newC (intsV zs) (scE (intsV zs) (scE (intsV zs) 5 + 1 + 1) + 1) t8 (fstC (intsV zs)))]) (fun c hc => by simp only [List.mem_cons, List.not_mem_nil, or_false] at hc; rcases hc with rfl | rfl <;> assumption), hK⟩
  have hC : LoopsOK 0 Tryz.prog 109 (Lch (fun vals h => vals = rdV 1 0 ∧ h = rdH (intsV zs) (scE (intsV zs) 5 + 1 + 1) (fstC (intsV zs)).cells) 2 (([(fstC (intsV zs)), (newC (intsV zs) (scE (intsV zs) (scE (intsV zs) 5 + 1 + 1) + 1) t8 (fstC (intsV zs)))] : List Cl).flatMap Cl.cells)) (codeOf Tryz.f4) := by
    refine loops_one one6c (hook_ok (G := []) (L := noHooks) (f := 3000) (sameX := [0]) SLf_ok mixed (by decide) (loops_none _ _ _ _) ?_)
    rintro vals h K ⟨⟨rfl, rfl⟩, hK⟩
    exact hloop K hK
  refine FnOK.ttree SLf_ok mixed Tryz.func4 some4 hC (fin2 F0 (intsV zs) (fstC (intsV zs)).id (fstC (intsV zs)).sub (fstC (intsV zs)).iss (fstC (intsV zs)).par (fstC (intsV zs)).aud (fstC (intsV zs)).sc (fstC (intsV zs)).fr (fstC (intsV zs)).to (newC (intsV zs) (scE (intsV zs) (scE (intsV zs) 5 + 1 + 1) + 1) t8 (fstC (intsV zs))).id (newC (intsV zs) (scE (intsV zs) (scE (intsV zs) 5 + 1 + 1) + 1) t8 (fstC (intsV zs))).sub (newC (intsV zs) (scE (intsV zs) (scE (intsV zs) 5 + 1 + 1) + 1) t8 (fstC (intsV zs))).iss (newC (intsV zs) (scE (intsV zs) (scE (intsV zs) 5 + 1 + 1) + 1) t8 (fstC (intsV zs))).par (newC (intsV zs) (scE (intsV zs) (scE (intsV zs) 5 + 1 + 1) + 1) t8 (fstC (intsV zs))).aud (newC (intsV zs) (scE (intsV zs) (scE (intsV zs) 5 + 1 + 1) + 1) t8 (fstC (intsV zs))).sc (newC (intsV zs) (scE (intsV zs) (scE (intsV zs) 5 + 1 + 1) + 1) t8 (fstC (intsV zs))).fr (newC (intsV zs) (scE (intsV zs) (scE (intsV zs) 5 + 1 + 1) + 1) t8 (fstC (intsV zs))).to _ (fun v => v = .bool true)) (beg_ok ⟨rfl, rfl⟩ ?_)
  have cl : allV (unF (newC (intsV zs) (scE (intsV zs) (scE (intsV zs) 5 + 1 + 1) + 1) t8 (fstC (intsV zs))).sc) (unF (newC (intsV zs) (scE (intsV zs) (scE (intsV zs) 5 + 1 + 1) + 1) t8 (fstC (intsV zs))).sc) = true := allV_refl k1.ten
  have c0 : allV (unF (fstC (intsV zs)).sc) (unF (newC (intsV zs) (scE (intsV zs) (scE (intsV zs) 5 + 1 + 1) + 1) t8 (fstC (intsV zs))).sc) = true := allV_trans hf.ten k1.ten k1.ten x1.sc cl
  have f1 := x1.fr
  have g1 := x1.to
  refine fin_ok (c0 := (fstC (intsV zs))) (rest := [(newC (intsV zs) (scE (intsV zs) (scE (intsV zs) 5 + 1 + 1) + 1) t8 (fstC (intsV zs)))]) (L := (newC (intsV zs) (scE (intsV zs) (scE (intsV zs) 5 + 1 + 1) + 1) t8 (fstC (intsV zs)))) (fun c hc => by simp only [List.mem_cons, List.not_mem_nil, or_false] at hc; rcases hc with rfl | rfl <;> assumption) k1 ?_ rfl ⟨x1, trivial⟩ ?_ rfl
  · intro e he
    simp only [List.mem_cons, List.not_mem_nil, or_false] at he
    rcases he with rfl | rfl
    · exact ⟨c0, by omega, by omega⟩
    · exact ⟨cl, by omega, by omega⟩
  · simp only [List.pairwise_cons, List.mem_cons, List.not_mem_nil, or_false, List.Pairwise.nil, and_true, forall_eq, false_imp_iff, implies_true]
    exact n8
theorem path011 (zs : List Int) (y0 : errC (intsV zs) (scE (intsV zs) 5 + 1 + 1) t7 (fstC (intsV zs)) ≠ 0) (y1 : errC (intsV zs) (scE (intsV zs) (scE (intsV zs) 5 + 1 + 1) + 1) t8 (fstC (intsV zs)) = 0) (y2 : errC (intsV zs) (scE (intsV zs) (scE (intsV zs) (scE (intsV zs) 5 + 1 + 1) + 1) + 1) t9 (newC (intsV zs) (scE (intsV zs) (scE (intsV zs) 5 + 1 + 1) + 1) t8 (fstC (intsV zs))) = 0) : FnOK 0 Tryz.prog 4 ⟨[fz (intsV zs)]⟩ h0 (fun v _ => v = .bool true) := by
  obtain ⟨hf, hid⟩ := fst_ok zs
  obtain ⟨n7, n8, n9⟩ := id0_ne hid
  have e0 := scE_in zs (d := 5) (by omega) (by omega)
  have e1 := scE_in zs (d := (scE (intsV zs) 5 + 1 + 1)) (by omega) (by omega)
  have e2 := scE_in zs (d := (scE (intsV zs) (scE (intsV zs) 5 + 1 + 1) + 1)) (by omega) (by omega)
  have e3 := scE_in zs (d := (scE (intsV zs) (scE (intsV zs) (scE (intsV zs) 5 + 1 + 1) + 1) + 1)) (by omega) (by omega)
  obtain ⟨k1, x1⟩ := new_ok (zs := zs) (d := (scE (intsV zs) (scE (intsV zs) 5 + 1 + 1) + 1)) (idn := t8) (L := (fstC (intsV zs))) hf (by omega) (by omega) (by decide) y1
  obtain ⟨k2, x2⟩ := new_ok (zs := zs) (d := (scE (intsV zs) (scE (intsV zs) (scE (intsV zs) 5 + 1 + 1) + 1) + 1)) (idn := t9) (L := (newC (intsV zs) (scE (intsV zs) (scE (intsV zs) 5 + 1 + 1) + 1) t8 (fstC (intsV zs)))) k1 (by omega) (by omega) (by decide) y2
  have hloop : ∀ K : AExit → List Value → AH → Prop, K (.exit 0) [.slice (some ⟨0, 0, none⟩) 3 3] (chH (([(fstC (intsV zs)), (newC (intsV zs) (scE (intsV zs) (scE (intsV zs) 5 + 1 + 1) + 1) t8 (fstC (intsV zs))), (newC (intsV zs) (scE (intsV zs) (scE (intsV zs) (scE (intsV zs) 5 + 1 + 1) + 1) + 1) t9 (newC (intsV zs) (scE (intsV zs) (scE (intsV zs) 5 + 1 + 1) + 1) t8 (fstC (intsV zs))))] : List Cl).flatMap Cl.cells)) → ∃ n, iter 0 Tryz.prog (SLf F0) [] noHooks 3000 109 [3, 5, 24, 25, 26] [1] [5] [0] (oneLoop (codeOf Tryz.f4) 6) n (rdV 1 0) (rdH (intsV zs) (scE (intsV zs) 5 + 1 + 1) (fstC (intsV zs)).cells) K := by
    intro K hK
    refine itI (n := 3 + 1) ?_
    have e := rd10 F0 (intsV zs) (scE (intsV zs) 5 + 1 + 1) (fstC (intsV zs)).id (fstC (intsV zs)).sub (fstC (intsV zs)).iss (fstC (intsV zs)).par (fstC (intsV zs)).aud (fstC (intsV zs)).sc (fstC (intsV zs)).fr (fstC (intsV zs)).to (fun v g => it 3 v g K) K
    refine itS 3 e ?_
    refine (rdT_ok (L := (fstC (intsV zs))) hf (by omega) (by omega) (by decide) (fun _ => ?_) (fun q => absurd q y0))
    refine ⟨nn_cells (cs := [(fstC (intsV zs))]) (fun c hc => by rw [List.mem_singleton.1 hc]; assumption), ?_⟩
    have e := rd11 F0 (intsV zs) (scE (intsV zs) (scE (intsV zs) 5 + 1 + 1) + 1) (fstC (intsV zs)).id (fstC (intsV zs)).sub (fstC (intsV zs)).iss (fstC (intsV zs)).par (fstC (intsV zs)).aud (fstC (intsV zs)).sc (fstC (intsV zs)).fr (fstC (intsV zs)).to (fun v g => it 2 v g K) K
    refine itS 2 e ?_
    refine (rdT_ok (L := (fstC (intsV zs))) hf (by omega) (by omega) (by decide) (fun q => absurd y1 q) (fun _ => ?_))
    rw [show rdC F0 (intsV zs) (scE (intsV zs) (scE (intsV zs) 5 + 1 + 1) + 1) ⟨#[116, 56]⟩ (fstC (intsV zs)).id (fstC (intsV zs)).iss (fstC (intsV zs)).aud (fstC (intsV zs)).sc (fstC (intsV zs)).fr (fstC (intsV zs)).to = (newC (intsV zs) (scE (intsV zs) (scE (intsV zs) 5 + 1 + 1) + 1) t8 (fstC (intsV zs))).cells from rdC_new y1]
    refine ⟨nn_cells (cs := [(fstC (intsV zs)), (newC (intsV zs) (scE (intsV zs) (scE (intsV zs) 5 + 1 + 1) + 1) t8 (fstC (intsV zs)))]) (fun c hc => by simp only [List.mem_cons, List.not_mem_nil, or_false] at hc; rcases hc with rfl | rfl <;> assumption), ?_⟩
    have e := rd22 F0 (intsV zs) (scE (intsV zs) (scE (intsV zs) (scE (intsV zs) 5 + 1 + 1) + 1) + 1) (.string (fstC (intsV zs)).id) (.string (fstC (intsV zs)).sub) (.string (fstC (intsV zs)).iss) (.string (fstC (intsV zs)).par) (fstC (intsV zs)).aud (fstC (intsV zs)).sc (.int .i64 (fstC (intsV zs)).fr) (.int .i64 (fstC (intsV zs)).to) (newC (intsV zs) (scE (intsV zs) (scE (intsV zs) 5 + 1 + 1) + 1) t8 (fstC (intsV zs))).id (newC (intsV zs) (scE (intsV zs) (scE (intsV zs) 5 + 1 + 1) + 1) t8 (fstC (intsV zs))).sub (newC (intsV zs) (scE (intsV zs) (scE (intsV zs) 5 + 1 + 1) + 1) t8 (fstC (intsV zs))).iss (newC (intsV zs) (scE (intsV zs) (scE (intsV zs) 5 + 1 + 1) + 1) t8 (fstC (intsV zs))).par (newC (intsV zs) (scE (intsV zs) (scE (intsV zs) 5 + 1 + 1) + 1) t8 (fstC (intsV zs))).aud (newC (intsV zs) (scE (intsV zs) (scE (intsV zs) 5 + 1 + 1) + 1) t8 (fstC (intsV zs))).sc (newC (intsV zs) (scE (intsV zs) (scE (intsV zs) 5 + 1 + 1) + 1) t8 (fstC (intsV zs))).fr (newC (intsV zs) (scE (intsV zs) (scE (intsV zs) 5 + 1 + 1) + 1) t8 (fstC (intsV zs))).to (fun v g => it 1 v g K) K
    refine itS 1 e ?_
    refine (rdT_ok (L := (newC (intsV zs) (scE (intsV zs) (scE (intsV zs) 5 + 1 + 1) + 1) t8 (fstC (intsV zs)))) k1 (by omega) (by omega) (by decide) (fun q => absurd y2 q) (fun _ => ?_))
    rw [show rdC F0 (intsV zs) (scE (intsV zs) (scE (intsV zs) (scE (intsV zs) 5 + 1 + 1) + 1) + 1) ⟨#[116, 57]⟩ (newC (intsV zs) (scE (intsV zs) (scE (intsV zs) 5 + 1 + 1) + 1) t8 (fstC (intsV zs))).id (newC (intsV zs) (scE (intsV zs) (scE (intsV zs) 5 + 1 + 1) + 1) t8 (fstC (intsV zs))).iss (newC (intsV zs) (scE (intsV zs) (scE (intsV zs) 5 + 1 + 1) + 1) t8 (fstC (intsV zs))).aud (newC (intsV zs) (scE (intsV zs) (scE (intsV zs) 5 + 1 + 1) + 1) t8 (fstC (intsV zs))).sc (newC (intsV zs) (scE (intsV zs) (scE (intsV zs) 5 + 1 + 1) + 1) t8 (fstC (intsV zs))).fr (newC (intsV zs) (scE (intsV zs) (scE (intsV zs) 5 + 1 + 1) + 1) t8 (fstC (intsV zs))).to = (newC (intsV zs) (scE (intsV zs) (scE (intsV zs) (scE (intsV zs) 5 + 1 + 1) + 1) + 1) t9 (newC (intsV zs) (scE (intsV zs) (scE (intsV zs) 5 + 1 + 1) + 1) t8 (fstC (intsV zs)))).cells from rdC_new y2]
    refine ⟨nn_cells (cs := [(fstC (intsV zs)), (newC (intsV zs) (scE (intsV zs) (scE (intsV zs) 5 + 1 + 1) + 1) t8 (fstC (intsV zs))), (newC (intsV zs) (scE (intsV zs) (scE (intsV zs) (scE (intsV zs) 5 + 1 + 1) + 1) + 1) t9 (newC (intsV zs) (scE (intsV zs) (scE (intsV zs) 5 + 1 + 1) + 1) t8 (fstC (intsV zs))))]) (fun c hc => by simp only [List.mem_cons, List.not_mem_nil, or_false] at hc; rcases hc with rfl | rfl | rfl <;> assumption), ?_⟩
    exact itS 0 (rdx F0 (intsV zs) (scE (intsV zs) (scE (intsV zs) (scE (intsV zs) (scE (intsV zs) 5 + 1 + 1) + 1) + 1) + 1) 3 (([(fstC (intsV zs)), (newC (intsV zs) (scE (intsV zs) (scE (intsV zs) 5 + 1 + 1) + 1) t8 (fstC (intsV zs))), (newC (intsV zs) (scE (intsV zs) (scE (intsV zs) (scE (intsV zs) 5 + 1 + 1) + 1) + 1) t9 (newC (intsV zs) (scE (intsV zs) (scE (intsV zs) 5 + 1 + 1) + 1) t8 (fstC (intsV zs))))] : List Cl).flatMap Cl.cells) _ K) ⟨nn_cells (cs := [(fstC (intsV zs)), (newC (intsV zs) (scE (intsV zs) (scE (intsV zs) 5 + 1 + 1) + 1) t8 (fstC (intsV zs))), (newC (intsV zs) (scE (intsV zs) (scE (intsV zs) (scE (intsV zs) 5 + 1 + 1) + 1) + 1) t9 (newC (intsV zs) (scE (intsV zs) (scE (intsV zs) 5 + 1 + 1) + 1) t8 (fstC (intsV zs))))]) (fun c hc => by simp only [List.mem_cons, List.not_mem_nil, or_false] at hc; rcases hc with rfl | rfl | rfl <;> assumption), hK⟩
  have hC : LoopsOK 0 Tryz.prog 109 (Lch (fun vals h => vals = rdV 1 0 ∧ h = rdH (intsV zs) (scE (intsV zs) 5 + 1 + 1) (fstC (intsV zs)).cells) 3 (([(fstC (intsV zs)), (newC (intsV zs) (scE (intsV zs) (scE (intsV zs) 5 + 1 + 1) + 1) t8 (fstC (intsV zs))), (newC (intsV zs) (scE (intsV zs) (scE (intsV zs) (scE (intsV zs) 5 + 1 + 1) + 1) + 1) t9 (newC (intsV zs) (scE (intsV zs) (scE (intsV zs) 5 + 1 + 1) + 1) t8 (fstC (intsV zs))))] : List Cl).flatMap Cl.cells)) (codeOf Tryz.f4) := by
    refine loops_one one6c (hook_ok (G := []) (L := noHooks) (f := 3000) (sameX := [0]) SLf_ok mixed (by decide) (loops_none _ _ _ _) ?_)
    rintro vals h K ⟨⟨rfl, rfl⟩, hK⟩
    exact hloop K hK
  refine FnOK.ttree SLf_ok mixed Tryz.func4 some4 hC (fin3 F0 (intsV zs) (fstC (intsV zs)).id (fstC (intsV zs)).sub (fstC (intsV zs)).iss (fstC (intsV zs)).par (fstC (intsV zs)).aud (fstC (intsV zs)).sc (fstC (intsV zs)).fr (fstC (intsV zs)).to (newC (intsV zs) (scE (intsV zs) (scE (intsV zs) 5 + 1 + 1) + 1) t8 (fstC (intsV zs))).id (newC (intsV zs) (scE (intsV zs) (scE (intsV zs) 5 + 1 + 1) + 1) t8 (fstC (intsV zs))).sub (newC (intsV zs) (scE (intsV zs) (scE (intsV zs) 5 + 1 + 1) + 1) t8 (fstC (intsV zs))).iss (newC (intsV zs) (scE (intsV zs) (scE (intsV zs) 5 + 1 + 1) + 1) t8 (fstC (intsV zs))).par (newC (intsV zs) (scE (intsV zs) (scE (intsV zs) 5 + 1 + 1) + 1) t8 (fstC (intsV zs))).aud (newC (intsV zs) (scE (intsV zs) (scE (intsV zs) 5 + 1 + 1) + 1) t8 (fstC (intsV zs))).sc (newC (intsV zs) (scE (intsV zs) (scE (intsV zs) 5 + 1 + 1) + 1) t8 (fstC (intsV zs))).fr (newC (intsV zs) (scE (intsV zs) (scE (intsV zs) 5 + 1 + 1) + 1) t8 (fstC (intsV zs))).to (newC (intsV zs) (scE (intsV zs) (scE (intsV zs) (scE (intsV zs) 5 + 1 + 1) + 1) + 1) t9 (newC (intsV zs) (scE (intsV zs) (scE (intsV zs) 5 + 1 + 1) + 1) t8 (fstC (intsV zs)))).id (newC (intsV zs) (scE (intsV zs) (scE (intsV zs) (scE (intsV zs) 5 + 1 + 1) + 1) + 1) t9 (newC (intsV zs) (scE (intsV zs) (scE (intsV zs) 5 + 1 + 1) + 1) t8 (fstC (intsV zs)))).sub (newC (intsV zs) (scE (intsV zs) (scE (intsV zs) (scE (intsV zs) 5 + 1 + 1) + 1) + 1) t9 (newC (intsV zs) (scE (intsV zs) (scE (intsV zs) 5 + 1 + 1) + 1) t8 (fstC (intsV zs)))).iss (newC (intsV zs) (scE (intsV zs) (scE (intsV zs) (scE (intsV zs) 5 + 1 + 1) + 1) + 1) t9 (newC (intsV zs) (scE (intsV zs) (scE (intsV zs) 5 + 1 + 1) + 1) t8 (fstC (intsV zs)))).par (newC (intsV zs) (scE (intsV zs) (scE (intsV zs) (scE (intsV zs) 5 + 1 + 1) + 1) + 1) t9 (newC (intsV zs) (scE (intsV zs) (scE (intsV zs) 5 + 1 + 1) + 1) t8 (fstC (intsV zs)))).aud (newC (intsV zs) (scE (intsV zs) (scE (intsV zs) (scE (intsV zs) 5 + 1 + 1) + 1) + 1) t9 (newC (intsV zs) (scE (intsV zs) (scE (intsV zs) 5 + 1 + 1) + 1) t8 (fstC (intsV zs)))).sc (newC (intsV zs) (scE (intsV zs) (scE (intsV zs) (scE (intsV zs) 5 + 1 + 1) + 1) + 1) t9 (newC (intsV zs) (scE (intsV zs) (scE (intsV zs) 5 + 1 + 1) + 1) t8 (fstC (intsV zs)))).fr (newC (intsV zs) (scE (intsV zs) (scE (intsV zs) (scE (intsV zs) 5 + 1 + 1) + 1) + 1) t9 (newC (intsV zs) (scE (intsV zs) (scE (intsV zs) 5 + 1 + 1) + 1) t8 (fstC (intsV zs)))).to _ (fun v => v = .bool true)) (beg_ok ⟨rfl, rfl⟩ ?_)
  have cl : allV (unF (newC (intsV zs) (scE (intsV zs) (scE (intsV zs) (scE (intsV zs) 5 + 1 + 1) + 1) + 1) t9 (newC (intsV zs) (scE (intsV zs) (scE (intsV zs) 5 + 1 + 1) + 1) t8 (fstC (intsV zs)))).sc) (unF (newC (intsV zs) (scE (intsV zs) (scE (intsV zs) (scE (intsV zs) 5 + 1 + 1) + 1) + 1) t9 (newC (intsV zs) (scE (intsV zs) (scE (intsV zs) 5 + 1 + 1) + 1) t8 (fstC (intsV zs)))).sc) = true := allV_refl k2.ten
  have c1 : allV (unF (newC (intsV zs) (scE (intsV zs) (scE (intsV zs) 5 + 1 + 1) + 1) t8 (fstC (intsV zs))).sc) (unF (newC (intsV zs) (scE (intsV zs) (scE (intsV zs) (scE (intsV zs) 5 + 1 + 1) + 1) + 1) t9 (newC (intsV zs) (scE (intsV zs) (scE (intsV zs) 5 + 1 + 1) + 1) t8 (fstC (intsV zs)))).sc) = true := allV_trans k1.ten k2.ten k2.ten x2.sc cl
  have c0 : allV (unF (fstC (intsV zs)).sc) (unF (newC (intsV zs) (scE (intsV zs) (scE (intsV zs) (scE (intsV zs) 5 + 1 + 1) + 1) + 1) t9 (newC (intsV zs) (scE (intsV zs) (scE (intsV zs) 5 + 1 + 1) + 1) t8 (fstC (intsV zs)))).sc) = true := allV_trans hf.ten k1.ten k2.ten x1.sc c1
  have f1 := x1.fr
  have g1 := x1.to
  have f2 := x2.fr
  have g2 := x2.to
  refine fin_ok (c0 := (fstC (intsV zs))) (rest := [(newC (intsV zs) (scE (intsV zs) (scE (intsV zs) 5 + 1 + 1) + 1) t8 (fstC (intsV zs))), (newC (intsV zs) (scE (intsV zs) (scE (intsV zs) (scE (intsV zs) 5 + 1 + 1) + 1) + 1) t9 (newC (intsV zs) (scE (intsV zs) (scE (intsV zs) 5 + 1 + 1) + 1) t8 (fstC (intsV zs))))]) (L := (newC (intsV zs) (scE (intsV zs) (scE (intsV zs) (scE (intsV zs) 5 + 1 + 1) + 1) + 1) t9 (newC (intsV zs) (scE (intsV zs) (scE (intsV zs) 5 + 1 + 1) + 1) t8 (fstC (intsV zs))))) (fun c hc => by simp only [List.mem_cons, List.not_mem_nil, or_false] at hc; rcases hc with rfl | rfl | rfl <;> assumption) k2 ?_ rfl ⟨x1, x2, trivial⟩ ?_ rfl
  · intro e he
    simp only [List.mem_cons, List.not_mem_nil, or_false] at he
    rcases he with rfl | rfl | rfl
    · exact ⟨c0, by omega, by omega⟩
    · exact ⟨c1, by omega, by omega⟩
    · exact ⟨cl, by omega, by omega⟩
  · simp only [List.pairwise_cons, List.mem_cons, List.not_mem_nil, or_false, List.Pairwise.nil, and_true, forall_eq_or_imp, forall_eq, false_imp_iff, implies_true]
    exact ⟨⟨n8, n9⟩, t89⟩
theorem path100 (zs : List Int) (y0 : errC (intsV zs) (scE (intsV zs) 5 + 1 + 1) t7 (fstC (intsV zs)) = 0) (y1 : errC (intsV zs) (scE (intsV zs) (scE (intsV zs) 5 + 1 + 1) + 1) t8 (newC (intsV zs) (scE (intsV zs) 5 + 1 + 1) t7 (fstC (intsV zs))) ≠ 0) (y2 : errC (intsV zs) (scE (intsV zs) (scE (intsV zs) (scE (intsV zs) 5 + 1 + 1) + 1) + 1) t9 (newC (intsV zs) (scE (intsV zs) 5 + 1 + 1) t7 (fstC (intsV zs))) ≠ 0) : FnOK 0 Tryz.prog 4 ⟨[fz (intsV zs)]⟩ h0 (fun v _ => v = .bool true) := by
  obtain ⟨hf, hid⟩ := fst_ok zs
  obtain ⟨n7, n8, n9⟩ := id0_ne hid
  have e0 := scE_in zs (d := 5) (by omega) (by omega)
  have e1 := scE_in zs (d := (scE (intsV zs) 5 + 1 + 1)) (by omega) (by omega)
  have e2 := scE_in zs (d := (scE (intsV zs) (scE (intsV zs) 5 + 1 + 1) + 1)) (by omega) (by omega)
  have e3 := scE_in zs (d := (scE (intsV zs) (scE (intsV zs) (scE (intsV zs) 5 + 1 + 1) + 1) + 1)) (by omega) (by omega)
  obtain ⟨k0, x0⟩ := new_ok (zs := zs) (d := (scE (intsV zs) 5 + 1 + 1)) (idn := t7) (L := (fstC (intsV zs))) hf (by omega) (by omega) (by decide) y0
  have hloop : ∀ K : AExit → List Value → AH → Prop, K (.exit 0) [.slice (some ⟨0, 0, none⟩) 2 2] (chH (([(fstC (intsV zs)), (newC (intsV zs) (scE (intsV zs) 5 + 1 + 1) t7 (fstC (intsV zs)))] : List Cl).flatMap Cl.cells)) → ∃ n, iter 0 Tryz.prog (SLf F0) [] noHooks 3000 109 [3, 5, 24, 25, 26] [1] [5] [0] (oneLoop (codeOf Tryz.f4) 6) n (rdV 1 0) (rdH (intsV zs) (scE (intsV zs) 5 + 1 + 1) (fstC (intsV zs)).cells) K := by
    intro K hK
    refine itI (n := 3 + 1) ?_
    have e := rd10 F0 (intsV zs) (scE (intsV zs) 5 + 1 + 1) (fstC (intsV zs)).id (fstC (intsV zs)).sub (fstC (intsV zs)).iss (fstC (intsV zs)).par (fstC (intsV zs)).aud (fstC (intsV zs)).sc (fstC (intsV zs)).fr (fstC (intsV zs)).to (fun v g => it 3 v g K) K
    refine itS 3 e ?_
    refine (rdT_ok (L := (fstC (intsV zs))) hf (by omega) (by omega) (by decide) (fun q => absurd y0 q) (fun _ => ?_))
    rw [show rdC F0 (intsV zs) (scE (intsV zs) 5 + 1 + 1) ⟨#[116, 55]⟩ (fstC (intsV zs)).id (fstC (intsV zs)).iss (fstC (intsV zs)).aud (fstC (intsV zs)).sc (fstC (intsV zs)).fr (fstC (intsV zs)).to = (newC (intsV zs) (scE (intsV zs) 5 + 1 + 1) t7 (fstC (intsV zs))).cells from rdC_new y0]
    refine ⟨nn_cells (cs := [(fstC (intsV zs)), (newC (intsV zs) (scE (intsV zs) 5 + 1 + 1) t7 (fstC (intsV zs)))]) (fun c hc => by simp only [List.mem_cons, List.not_mem_nil, or_false] at hc; rcases hc with rfl | rfl <;> assumption), ?_⟩
    have e := rd21 F0 (intsV zs) (scE (intsV zs) (scE (intsV zs) 5 + 1 + 1) + 1) (.string (fstC (intsV zs)).id) (.string (fstC (intsV zs)).sub) (.string (fstC (intsV zs)).iss) (.string (fstC (intsV zs)).par) (fstC (intsV zs)).aud (fstC (intsV zs)).sc (.int .i64 (fstC (intsV zs)).fr) (.int .i64 (fstC (intsV zs)).to) (newC (intsV zs) (scE (intsV zs) 5 + 1 + 1) t7 (fstC (intsV zs))).id (newC (intsV zs) (scE (intsV zs) 5 + 1 + 1) t7 (fstC (intsV zs))).sub (newC (intsV zs) (scE (intsV zs) 5 + 1 + 1) t7 (fstC (intsV zs))).iss (newC (intsV zs) (scE (intsV zs) 5 + 1 + 1) t7 (fstC (intsV zs))).par (newC (intsV zs) (scE (intsV zs) 5 + 1 + 1) t7 (fstC (intsV zs))).aud (newC (intsV zs) (scE (intsV zs) 5 + 1 + 1) t7 (fstC (intsV zs))).sc (newC (intsV zs) (scE (intsV zs) 5 + 1 + 1) t7 (fstC (intsV zs))).fr (newC (intsV zs) (scE (intsV zs) 5 + 1 + 1) t7 (fstC (intsV zs))).to (fun v g => it 2 v g K) K
    refine itS 2 e ?_
    refine (rdT_ok (L := (newC (intsV zs) (scE (intsV zs) 5 + 1 + 1) t7 (fstC (intsV zs)))) k0 (by omega) (by omega) (by decide) (fun _ => ?_) (fun q => absurd q y1))
    refine ⟨nn_cells (cs := [(fstC (intsV zs)), (newC (intsV zs) (scE (intsV zs) 5 + 1 + 1) t7 (fstC (intsV zs)))]) (fun c hc => by simp only [List.mem_cons, List.not_mem_nil, or_false] at hc; rcases hc with rfl | rfl <;> assumption), ?_⟩
    have e := rd22 F0 (intsV zs) (scE (intsV zs) (scE (intsV zs) (scE (intsV zs) 5 + 1 + 1) + 1) + 1) (.string (fstC (intsV zs)).id) (.string (fstC (intsV zs)).sub) (.string (fstC (intsV zs)).iss) (.string (fstC (intsV zs)).par) (fstC (intsV zs)).aud (fstC (intsV zs)).sc (.int .i64 (fstC (intsV zs)).fr) (.int .i64 (fstC (intsV zs)).to) (newC (intsV zs) (scE (intsV zs) 5 + 1 + 1) t7 (fstC (intsV zs))).id (newC (intsV zs) (scE (intsV zs) 5 + 1 + 1) t7 (fstC (intsV zs))).sub (newC (intsV zs) (scE (intsV zs) 5 + 1 + 1) t7 (fstC (intsV zs))).iss (newC (intsV zs) (scE (intsV zs) 5 + 1 + 1) t7 (fstC (intsV zs))).par (newC (intsV zs) (scE (intsV zs) 5 + 1 + 1) t7 (fstC (intsV zs))).aud (newC (intsV zs) (scE (intsV zs) 5 + 1 + 1) t7 (fstC (intsV zs))).sc (newC (intsV zs) (scE (intsV zs) 5 + 1 + 1) t7 (fstC (intsV zs))).fr (newC (intsV zs) (scE (intsV zs) 5 + 1 + 1) t7 (fstC (intsV zs))).to (fun v g => it 1 v g K) K
    refine itS 1 e ?_
    refine (rdT_ok (L := (newC (intsV zs) (scE (intsV zs) 5 + 1 + 1) t7 (fstC (intsV zs)))) k0 (by omega) (by omega) (by decide) (fun _ => ?_) (fun q => absurd q y2))
    refine ⟨nn_cells (cs := [(fstC (intsV zs)), (newC (intsV zs) (scE (intsV zs) 5 + 1 + 1) t7 (fstC (intsV zs)))]) (fun c hc => by simp only [List.mem_cons, List.not_mem_nil, or_false] at hc; rcases hc with rfl | rfl <;> assumption), ?_⟩
    exact itS 0 (rdx F0 (intsV zs) (scE (intsV zs) (scE (intsV zs) (scE (intsV zs) (scE (intsV zs) 5 + 1 + 1) + 1) + 1) + 1) 2 (([(fstC (intsV zs)), (newC (intsV zs) (scE (intsV zs) 5 + 1 + 1) t7 (fstC (intsV zs)))] : List Cl).flatMap Cl.cells) _ K) ⟨nn_cells (cs := [(fstC (intsV zs)), (newC (intsV zs) (scE (intsV zs) 5 + 1 + 1) t7 (fstC (intsV zs)))]) (fun c hc => by simp only [List.mem_cons, List.not_mem_nil, or_false] at hc; rcases hc with rfl | rfl <;> assumption), hK⟩
  have hC : LoopsOK 0 Tryz.prog 109 (Lch (fun vals h => vals = rdV 1 0 ∧ h = rdH (intsV zs) (scE (intsV zs) 5 + 1 + 1) (fstC (intsV zs)).cells) 2 (([(fstC (intsV zs)), (newC (intsV zs) (scE (intsV zs) 5 + 1 + 1) t7 (fstC (intsV zs)))] : List Cl).flatMap Cl.cells)) (codeOf Tryz.f4) := by
    refine loops_one one6c (hook_ok (G := []) (L := noHooks) (f := 3000) (sameX := [0]) SLf_ok mixed (by decide) (loops_none _ _ _ _) ?_)
    rintro vals h K ⟨⟨rfl, rfl⟩, hK⟩
    exact hloop K hK
  refine FnOK.ttree SLf_ok mixed Tryz.func4 some4 hC (fin2 F0 (intsV zs) (fstC (intsV zs)).id (fstC (intsV zs)).sub (fstC (intsV zs)).iss (fstC (intsV zs)).par (fstC (intsV zs)).aud (fstC (intsV zs)).sc (fstC (intsV zs)).fr (fstC (intsV zs)).to (newC (intsV zs) (scE (intsV zs) 5 + 1 + 1) t7 (fstC (intsV zs))).id (newC (intsV zs) (scE (intsV zs) 5 + 1 + 1) t7 (fstC (intsV zs))).sub (newC (intsV zs) (scE (intsV zs) 5 + 1 + 1) t7 (fstC (intsV zs))).iss (newC (intsV zs) (scE (intsV zs) 5 + 1 + 1) t7 (fstC (intsV zs))).par (newC (intsV zs) (scE (intsV zs) 5 + 1 + 1) t7 (fstC (intsV zs))).aud (newC (intsV zs) (scE (intsV zs) 5 + 1 + 1) t7 (fstC (intsV zs))).sc (newC (intsV zs) (scE (intsV zs) 5 + 1 + 1) t7 (fstC (intsV zs))).fr (newC (intsV zs) (scE (intsV zs) 5 + 1 + 1) t7 (fstC (intsV zs))).to _ (fun v => v = .bool true)) (beg_ok ⟨rfl, rfl⟩ ?_)
  have cl : allV (unF (newC (intsV zs) (scE (intsV zs) 5 + 1 + 1) t7 (fstC (intsV zs))).sc) (unF (newC (intsV zs) (scE (intsV zs) 5 + 1 + 1) t7 (fstC (intsV zs))).sc) = true := allV_refl k0.ten
  have c0 : allV (unF (fstC (intsV zs)).sc) (unF (newC (intsV zs) (scE (intsV zs) 5 + 1 + 1) t7 (fstC (intsV zs))).sc) = true := allV_trans hf.ten k0.ten k0.ten x0.sc cl
  have f0 := x0.fr
  have g0 := x0.to
  refine fin_ok (c0 := (fstC (intsV zs))) (rest := [(newC (intsV zs) (scE (intsV zs) 5 + 1 + 1) t7 (fstC (intsV zs)))]) (L := (newC (intsV zs) (scE (intsV zs) 5 + 1 + 1) t7 (fstC (intsV zs)))) (fun c hc => by simp only [List.mem_cons, List.not_mem_nil, or_false] at hc; rcases hc with rfl | rfl <;> assumption) k0 ?_ rfl ⟨x0, trivial⟩ ?_ rfl
  · intro e he
    simp only [List.mem_cons, List.not_mem_nil, or_false] at he
    rcases he with rfl | rfl
    · exact ⟨c0, by omega, by omega⟩
    · exact ⟨cl, by omega, by omega⟩
  · simp only [List.pairwise_cons, List.mem_cons, List.not_mem_nil, or_false, List.Pairwise.nil, and_true, forall_eq, false_imp_iff, implies_true]
    exact n7
theorem path101 (zs : List Int) (y0 : errC (intsV zs) (scE (intsV zs) 5 + 1 + 1) t7 (fstC (intsV zs)) = 0) (y1 : errC (intsV zs) (scE (intsV zs) (scE (intsV zs) 5 + 1 + 1) + 1) t8 (newC (intsV zs) (scE (intsV zs) 5 + 1 + 1) t7 (fstC (intsV zs))) ≠ 0) (y2 : errC (intsV zs) (scE (intsV zs) (scE (intsV zs) (scE (intsV zs) 5 + 1 + 1) + 1) + 1) t9 (newC (intsV zs) (scE (intsV zs) 5 + 1 + 1) t7 (fstC (intsV zs))) = 0) : FnOK 0 Tryz.prog 4 ⟨[fz (intsV zs)]⟩ h0 (fun v _ => v = .bool true) := by
  obtain ⟨hf, hid⟩ := fst_ok zs
  obtain ⟨n7, n8, n9⟩ := id0_ne hid
  have e0 := scE_in zs (d := 5) (by omega) (by omega)
  have e1 := scE_in zs (d := (scE (intsV zs) 5 + 1 + 1)) (by omega) (by omega)
  have e2 := scE_in zs (d := (scE (intsV zs) (scE (intsV zs) 5 + 1 + 1) + 1)) (by omega) (by omega)
  have e3 := scE_in zs (d := (scE (intsV zs) (scE (intsV zs) (scE (intsV zs) 5 + 1 + 1) + 1) + 1)) (by omega) (by omega)
  obtain ⟨k0, x0⟩ := new_ok (zs := zs) (d := (scE (intsV zs) 5 + 1 + 1)) (idn := t7) (L := (fstC (intsV zs))) hf (by omega) (by omega) (by decide) y0
  obtain ⟨k2, x2⟩ := new_ok (zs := zs) (d := (scE (intsV zs) (scE (intsV zs) (scE (intsV zs) 5 + 1 + 1) + 1) + 1)) (idn := t9) (L := (newC (intsV zs) (scE (intsV zs) 5 + 1 + 1) t7 (fstC (intsV zs)))) k0 (by omega) (by omega) (by decide) y2
  have hloop : ∀ K : AExit → List Value → AH → Prop, K (.exit 0) [.slice (some ⟨0, 0, none⟩) 3 3] (chH (([(fstC (intsV zs)), (newC (intsV zs) (scE (intsV zs) 5 + 1 + 1) t7 (fstC (intsV zs))), (newC (intsV zs) (scE (intsV zs) (scE (intsV zs) (scE (intsV zs) 5 + 1 + 1) + 1) + 1) t9 (newC (intsV zs) (scE (intsV zs) 5 + 1 + 1) t7 (fstC (intsV zs))))] : List Cl).flatMap Cl.cells)) → ∃ n, iter 0 Tryz.prog (SLf F0) [] noHooks 3000 109 [3, 5, 24, 25, 26] [1] [5] [0] (oneLoop (codeOf Tryz.f4) 6) n (rdV 1 0) (rdH (intsV zs) (scE (intsV zs) 5 + 1 + 1) (fstC (intsV zs)).cells) K := by
    intro K hK
    refine itI (n := 3 + 1) ?_
    have e := rd10 F0 (intsV zs) (scE (intsV zs) 5 + 1 + 1) (fstC (intsV zs)).id (fstC (intsV zs)).sub (fstC (intsV zs)).iss (fstC (intsV zs)).par (fstC (intsV zs)).aud (fstC (intsV zs)).sc (fstC (intsV zs)).fr (fstC (intsV zs)).to (fun v g => it 3 v g K) K
    refine itS 3 e ?_
    refine (rdT_ok (L := (fstC (intsV zs))) hf (by omega) (by omega) (by decide) (fun q => absurd y0 q) (fun _ => ?_))
    rw [show rdC F0 (intsV zs) (scE (intsV zs) 5 + 1 + 1) ⟨#[116, 55]⟩ (fstC (intsV zs)).id (fstC (intsV zs)).iss (fstC (intsV zs)).aud (fstC (intsV zs)).sc (fstC (intsV zs)).fr (fstC (intsV zs)).to = (newC (intsV zs) (scE (intsV zs) 5 + 1 + 1) t7 (fstC (intsV zs))).cells from rdC_new y0]
    refine ⟨nn_cells (cs := [(fstC (intsV zs)), (newC (intsV zs) (scE (intsV zs) 5 + 1 + 1) t7 (fstC (intsV zs)))]) (fun c hc => by simp only [List.mem_cons, List.not_mem_nil, or_false] at hc; rcases hc with rfl | rfl <;> assumption), ?_⟩
    have e := rd21 F0 (intsV zs) (scE (intsV zs) (scE (intsV zs) 5 + 1 + 1) + 1) (.string (fstC (intsV zs)).id) (.string (fstC (intsV zs)).sub) (.string (fstC (intsV zs)).iss) (.string (fstC (intsV zs)).par) (fstC (intsV zs)).aud (fstC (intsV zs)).sc (.int .i64 (fstC (intsV zs)).fr) (.int .i64 (fstC (intsV zs)).to) (newC (intsV zs) (scE (intsV zs) 5 + 1 + 1) t7 (fstC (intsV zs))).id (newC (intsV zs) (scE (intsV zs) 5 + 1 + 1) t7 (fstC (intsV zs))).sub (newC (intsV zs) (scE (intsV zs) 5 + 1 + 1) t7 (fstC (intsV zs))).iss (newC (intsV zs) (scE (intsV zs) 5 + 1 + 1) t7 (fstC (intsV zs))).par (newC (intsV zs) (scE (intsV zs) 5 + 1 + 1) t7 (fstC (intsV zs))).aud (newC (intsV zs) (scE (intsV zs) 5 + 1 + 1) t7 (fstC (intsV zs))).sc (newC (intsV zs) (scE (intsV zs) 5 + 1 + 1) t7 (fstC (intsV zs))).fr (newC (intsV zs) (scE (intsV zs) 5 + 1 + 1) t7 (fstC (intsV zs))).to (fun v g => it 2 v g K) K
    refine itS 2 e ?_
    refine (rdT_ok (L := (newC (intsV zs) (scE (intsV zs) 5 + 1 + 1) t7 (fstC (intsV zs)))) k0 (by omega) (by omega) (by decide) (fun _ => ?_) (fun q => absurd q y1))
    refine ⟨nn_cells (cs := [(fstC (intsV zs)), (newC (intsV zs) (scE (intsV zs) 5 + 1 + 1) t7 (fstC (intsV zs)))]) (fun c hc => by simp only [List.mem_cons, List.not_mem_nil, or_false] at hc; rcases hc with rfl | rfl <;> assumption), ?_⟩
    have e := rd22 F0 (intsV zs) (scE (intsV zs) (scE (intsV zs) (scE (intsV zs) 5 + 1 + 1) + 1) + 1) (.string (fstC (intsV zs)).id) (.string (fstC (intsV zs)).sub) (.string (fstC (intsV zs)).iss) (.string (fstC (intsV zs)).par) (fstC (intsV zs)).aud (fstC (intsV zs)).sc (.int .i64 (fstC (intsV zs)).fr) (.int .i64 (fstC (intsV zs)).to) (newC (intsV zs) (scE (intsV zs) 5 + 1 + 1) t7 (fstC (intsV zs))).id (newC (intsV zs) (scE (intsV zs) 5 + 1 + 1) t7 (fstC (intsV zs))).sub (newC (intsV zs) (scE (intsV zs) 5 + 1 + 1) t7 (fstC (intsV zs))).iss (newC (intsV zs) (scE (intsV zs) 5 + 1 + 1) t7 (fstC (intsV zs))).par (newC (intsV zs) (scE (intsV zs) 5 + 1 + 1) t7 (fstC (intsV zs))).aud (newC (intsV zs) (scE (intsV zs) 5 + 1 + 1) t7 (fstC (intsV zs))).sc (newC (intsV zs) (scE (intsV zs) 5 + 1 + 1) t7 (fstC (intsV zs))).fr (newC (intsV zs) (scE (intsV zs) 5 + 1 + 1) t7 (fstC (intsV zs))).to (fun v g => it 1 v g K) K
    refine itS 1 e ?_
    refine (rdT_ok (L := (newC (intsV zs) (scE (intsV zs) 5 + 1 + 1) t7 (fstC (intsV zs)))) k0 (by omega) (by omega) (by decide) (fun q => absurd y2 q) (fun _ => ?_))
    rw [show rdC F0 (intsV zs) (scE (intsV zs) (scE (intsV zs) (scE (intsV zs) 5 + 1 + 1) + 1) + 1) ⟨#[116, 57]⟩ (newC (intsV zs) (scE (intsV zs) 5 + 1 + 1) t7 (fstC (intsV zs))).id (newC (intsV zs) (scE (intsV zs) 5 + 1 + 1) t7 (fstC (intsV zs))).iss (newC (intsV zs) (scE (intsV zs) 5 + 1 + 1) t7 (fstC (intsV zs))).aud (newC (intsV zs) (scE (intsV zs) 5 + 1 + 1) t7 (fstC (intsV zs))).sc (newC (intsV zs) (scE (intsV zs) 5 + 1 + 1) t7 (fstC (intsV zs))).fr (newC (intsV zs) (scE (intsV zs) 5 + 1 + 1) t7 (fstC (intsV zs))).to = (newC (intsV zs) (scE (intsV zs) (scE (intsV zs) (scE (intsV zs) 5 + 1 + 1) + 1) + 1) t9 (newC (intsV zs) (scE (intsV zs) 5 + 1 + 1) t7 (fstC (intsV zs)))).cells from rdC_new y2]
    refine ⟨nn_cells (cs := [(fstC (intsV zs)), (newC (intsV zs) (scE (intsV zs) 5 + 1 + 1) t7 (fstC (intsV zs))), (newC (intsV zs) (scE (intsV zs) (scE (intsV zs) (scE (intsV zs) 5 + 1 + 1) + 1) + 1) t9 (newC (intsV zs) (scE (intsV zs) 5 + 1 + 1) t7 (fstC (intsV zs))))]) (fun c hc => by simp only [List.mem_cons, List.not_mem_nil, or_false] at hc; rcases hc with rfl | rfl | rfl <;> assumption), ?_⟩
    exact itS 0 (rdx F0 (intsV zs) (scE (intsV zs) (scE (intsV zs) (scE (intsV zs) (scE (intsV zs) 5 + 1 + 1) + 1) + 1) + 1) 3 (([(fstC (intsV zs)), (newC (intsV zs) (scE (intsV zs) 5 + 1 + 1) t7 (fstC (intsV zs))), (newC (intsV zs) (scE (intsV zs) (scE (intsV zs) (scE (intsV zs) 5 + 1 + 1) + 1) + 1) t9 (newC (intsV zs) (scE (intsV zs) 5 + 1 + 1) t7 (fstC (intsV zs))))] : List Cl).flatMap Cl.cells) _ K) ⟨nn_cells (cs := [(fstC (intsV zs)), (newC (intsV zs) (scE (intsV zs) 5 + 1 + 1) t7 (fstC (intsV zs))), (newC (intsV zs) (scE (intsV zs) (scE (intsV zs) (scE (intsV zs) 5 + 1 + 1) + 1) + 1) t9 (newC (intsV zs) (scE (intsV zs) 5 + 1 + 1) t7 (fstC (intsV zs))))]) (fun c hc => by simp only [List.mem_cons, List.not_mem_nil, or_false] at hc; rcases hc with rfl | rfl | rfl <;> assumption), hK⟩
  have hC : LoopsOK 0 Tryz.prog 109 (Lch (fun vals h => vals = rdV 1 0 ∧ h = rdH (intsV zs) (scE (intsV zs) 5 + 1 + 1) (fstC (intsV zs)).cells) 3 (([(fstC (intsV zs)), (newC (intsV zs) (scE (intsV zs) 5 + 1 + 1) t7 (fstC (intsV zs))), (newC (intsV zs) (scE (intsV zs) (scE (intsV zs) (scE (intsV zs) 5 + 1 + 1) + 1) + 1) t9 (newC (intsV zs) (scE (intsV zs) 5 + 1 + 1) t7 (fstC (intsV zs))))] : List Cl).flatMap Cl.cells)) (codeOf Tryz.f4) := by
    refine loops_one one6c (hook_ok (G := []) (L := noHooks) (f := 3000) (sameX := [0]) SLf_ok mixed (by decide) (loops_none _ _ _ _) ?_)
    rintro vals h K ⟨⟨rfl, rfl⟩, hK⟩
    exact hloop K hK
  refine FnOK.ttree SLf_ok mixed Tryz.func4 some4 hC (fin3 F0 (intsV zs) (fstC (intsV zs)).id (fstC (intsV zs)).sub (fstC (intsV zs)).iss (fstC (intsV zs)).par (fstC (intsV zs)).aud (fstC (intsV zs)).sc (fstC (intsV zs)).fr (fstC (intsV zs)).to (newC (intsV zs) (scE (intsV zs) 5 + 1 + 1) t7 (fstC (intsV zs))).id (newC (intsV zs) (scE (intsV zs) 5 + 1 + 1) t7 (fstC (intsV zs))).sub (newC (intsV zs) (scE (intsV zs) 5 + 1 + 1) t7 (fstC (intsV zs))).iss (newC (intsV zs) (scE (intsV zs) 5 + 1 + 1) t7 (fstC (intsV zs))).par (newC (intsV zs) (scE (intsV zs) 5 + 1 + 1) t7 (fstC (intsV zs))).aud (newC (intsV zs) (scE (intsV zs) 5 + 1 + 1) t7 (fstC (intsV zs))).sc (newC (intsV zs) (scE (intsV zs) 5 + 1 + 1) t7 (fstC (intsV zs))).fr (newC (intsV zs) (scE (intsV zs) 5 + 1 + 1) t7 (fstC (intsV zs))).to (newC (intsV zs) (scE (intsV zs) (scE (intsV zs) (scE (intsV zs) 5 + 1 + 1) + 1) + 1) t9 (newC (intsV zs) (scE (intsV zs) 5 + 1 + 1) t7 (fstC (intsV zs)))).id (newC (intsV zs) (scE (intsV zs) (scE (intsV zs) (scE (intsV zs) 5 + 1 + 1) + 1) + 1) t9 (newC (intsV zs) (scE (intsV zs) 5 + 1 + 1) t7 (fstC (intsV zs)))).sub (newC (intsV zs) (scE (intsV zs) (scE (intsV zs) (scE (intsV zs) 5 + 1 + 1) + 1) + 1) t9 (newC (intsV zs) (scE (intsV zs) 5 + 1 + 1) t7 (fstC (intsV zs)))).iss (newC (intsV zs) (scE (intsV zs) (scE (intsV zs) (scE (intsV zs) 5 + 1 + 1) + 1) + 1) t9 (newC (intsV zs) (scE (intsV zs) 5 + 1 + 1) t7 (fstC (intsV zs)))).par (newC (intsV zs) (scE (intsV zs) (scE (intsV zs) (scE (intsV zs) 5 + 1 + 1) + 1) + 1) t9 (newC (intsV zs) (scE (intsV zs) 5 + 1 + 1) t7 (fstC (intsV zs)))).aud (newC (intsV zs) (scE (intsV zs) (scE (intsV zs) (scE (intsV zs) 5 + 1 + 1) + 1) + 1) t9 (newC (intsV zs) (scE (intsV zs) 5 + 1 + 1) t7 (fstC (intsV zs)))).sc (newC (intsV zs) (scE (intsV zs) (scE (intsV zs) (scE (intsV zs) 5 + 1 + 1) + 1) + 1) t9 (newC (intsV zs) (scE (intsV zs) 5 + 1 + 1) t7 (fstC (intsV zs)))).fr (newC (intsV zs) (scE (intsV zs) (scE (intsV zs) (scE (intsV zs) 5 + 1 + 1) + 1) + 1) t9 (newC (intsV zs) (scE (intsV zs) 5 + 1 + 1) t7 (fstC (intsV zs)))).to _ (fun v => v = .bool true)) (beg_ok ⟨rfl, rfl⟩ ?_)
  have cl : allV (unF (newC (intsV zs) (scE (intsV zs) (scE (intsV zs) (scE (intsV zs) 5 + 1 + 1) + 1) + 1) t9 (newC (intsV zs) (scE (intsV zs) 5 + 1 + 1) t7 (fstC (intsV zs)))).sc) (unF (newC (intsV zs) (scE (intsV zs) (scE (intsV zs) (scE (intsV zs) 5 + 1 + 1) + 1) + 1) t9 (newC (intsV zs) (scE (intsV zs) 5 + 1 + 1) t7 (fstC (intsV zs)))).sc) = true := allV_refl k2.ten
  have c1 : allV (unF (newC (intsV zs) (scE (intsV zs) 5 + 1 + 1) t7 (fstC (intsV zs))).sc) (unF (newC (intsV zs) (scE (intsV zs) (scE (intsV zs) (scE (intsV zs) 5 + 1 + 1) + 1) + 1) t9 (newC (intsV zs) (scE (intsV zs) 5 + 1 + 1) t7 (fstC (intsV zs)))).sc) = true := allV_trans k0.ten k2.ten k2.ten x2.sc cl
  have c0 : allV (unF (fstC (intsV zs)).sc) (unF (newC (intsV zs) (scE (intsV zs) (scE (intsV zs) (scE (intsV zs) 5 + 1 + 1) + 1) + 1) t9 (newC (intsV zs) (scE (intsV zs) 5 + 1 + 1) t7 (fstC (intsV zs)))).sc) = true := allV_trans hf.ten k0.ten k2.ten x0.sc c1
  have f0 := x0.fr
  have g0 := x0.to
  have f2 := x2.fr
  have g2 := x2.to
  refine fin_ok (c0 := (fstC (intsV zs))) (rest := [(newC (intsV zs) (scE (intsV zs) 5 + 1 + 1) t7 (fstC (intsV zs))), (newC (intsV zs) (scE (intsV zs) (scE (intsV zs) (scE (intsV zs) 5 + 1 + 1) + 1) + 1) t9 (newC (intsV zs) (scE (intsV zs) 5 + 1 + 1) t7 (fstC (intsV zs))))]) (L := (newC (intsV zs) (scE (intsV zs) (scE (intsV zs) (scE (intsV zs) 5 + 1 + 1) + 1) + 1) t9 (newC (intsV zs) (scE (intsV zs) 5 + 1 + 1) t7 (fstC (intsV zs))))) (fun c hc => by simp only [List.mem_cons, List.not_mem_nil, or_false] at hc; rcases hc with rfl | rfl | rfl <;> assumption) k2 ?_ rfl ⟨x0, x2, trivial⟩ ?_ rfl
  · intro e he
    simp only [List.mem_cons, List.not_mem_nil, or_false] at he
    rcases he with rfl | rfl | rfl
    · exact ⟨c0, by omega, by omega⟩
    · exact ⟨c1, by omega, by omega⟩
    · exact ⟨cl, by omega, by omega⟩
  · simp only [List.pairwise_cons, List.mem_cons, List.not_mem_nil, or_false, List.Pairwise.nil, and_true, forall_eq_or_imp, forall_eq, false_imp_iff, implies_true]
    exact ⟨⟨n7, n9⟩, t79⟩
theorem path110 (zs : List Int) (y0 : errC (intsV zs) (scE (intsV zs) 5 + 1 + 1) t7 (fstC (intsV zs)) = 0) (y1 : errC (intsV zs) (scE (intsV zs) (scE (intsV zs) 5 + 1 + 1) + 1) t8 (newC (intsV zs) (scE (intsV zs) 5 + 1 + 1) t7 (fstC (intsV zs))) = 0) (y2 : errC (intsV zs) (scE (intsV zs) (scE (intsV zs) (scE (intsV zs) 5 + 1 + 1) + 1) + 1) t9 (newC (intsV zs) (scE (intsV zs) (scE (intsV zs) 5 + 1 + 1) + 1) t8 (newC (intsV zs) (scE (intsV zs) 5 + 1 + 1) t7 (fstC (intsV zs)))) ≠ 0) : FnOK 0 Tryz.prog 4 ⟨[fz (intsV zs)]⟩ h0 (fun v _ => v = .bool true) := by
  obtain ⟨hf, hid⟩ := fst_ok zs
  obtain ⟨n7, n8, n9⟩ := id0_ne hid
  have e0 := scE_in zs (d := 5) (by omega) (by omega)
  have e1 := scE_in zs (d := (scE (intsV zs) 5 + 1 + 1)) (by omega) (by omega)
  have e2 := scE_in zs (d := (scE (intsV zs) (scE (intsV zs) 5 + 1 + 1) + 1)) (by omega) (by omega)
  have e3 := scE_in zs (d := (scE (intsV zs) (scE (intsV zs) (scE (intsV zs) 5 + 1 + 1) + 1) + 1)) (by omega) (by omega)
  obtain ⟨k0, x0⟩ := new_ok (zs := zs) (d := (scE (intsV zs) 5 + 1 + 1)) (idn := t7) (L := (fstC (intsV zs))) hf (by omega) (by omega) (by decide) y0
  obtain ⟨k1, x1⟩ := new_ok (zs := zs) (d := (scE (intsV zs) (scE (intsV zs) 5 + 1 + 1) + 1)) (idn := t8) (L := (newC (intsV zs) (scE (intsV zs) 5 + 1 + 1) t7 (fstC (intsV zs)))) k0 (by omega) (by omega) (by decide) y1
  have hloop : ∀ K : AExit → List Value → AH → Prop, K (.exit 0) [.slice (some ⟨0, 0, none⟩) 3 3] (chH (([(fstC (intsV zs)), (newC (intsV zs) (scE (intsV zs) 5 + 1 + 1) t7 (fstC (intsV zs))), (newC (intsV zs) (scE (intsV zs) (scE (intsV zs) 5 + 1 + 1) + 1) t8 (newC (intsV zs) (scE (intsV zs) 5 + 1 + 1) t7 (fstC (intsV zs))))] : List Cl).flatMap Cl.cells)) → ∃ n, iter 0 Tryz.prog (SLf F0) [] noHooks 3000 109 [3, 5, 24, 25, 26] [1] [5] [0] (oneLoop (codeOf Tryz.f4) 6) n (rdV 1 0) (rdH (intsV zs) (scE (intsV zs) 5 + 1 + 1) (fstC (intsV zs)).cells) K := by
    intro K hK
    refine itI (n := 3 + 1) ?_
    have e := rd10 F0 (intsV zs) (scE (intsV zs) 5 + 1 + 1) (fstC (intsV zs)).id (fstC (intsV zs)).sub (fstC (intsV zs)).iss (fstC (intsV zs)).par (fstC (intsV zs)).aud (fstC (intsV zs)).sc (fstC (intsV zs)).fr (fstC (intsV zs)).to (fun v g => it 3 v g K) K
    refine itS 3 e ?_
    refine (rdT_ok (L := (fstC (intsV zs))) hf (by omega) (by omega) (by decide) (fun q => absurd y0 q) (fun _ => ?_))
    rw [show rdC F0 (intsV zs) (scE (intsV zs) 5 + 1 + 1) ⟨#[116, 55]⟩ (fstC (intsV zs)).id (fstC (intsV zs)).iss (fstC (intsV zs)).aud (fstC (intsV zs)).sc (fstC (intsV zs)).fr (fstC (intsV zs)).to = (newC (intsV zs) (scE (intsV zs) 5 + 1 + 1) t7 (fstC (intsV zs))).cells from rdC_new y0]
    refine ⟨nn_cells (cs := [(fstC (intsV zs)), (newC (intsV zs) (scE (intsV zs) 5 + 1 + 1) t7 (fstC (intsV zs)))]) (fun c hc => by simp only [List.mem_cons, List.not_mem_nil, or_false] at hc; rcases hc with rfl | rfl <;> assumption), ?_⟩
    have e := rd21 F0 (intsV zs) (scE (intsV zs) (scE (intsV zs) 5 + 1 + 1) + 1) (.string (fstC (intsV zs)).id) (.string (fstC (intsV zs)).sub) (.string (fstC (intsV zs)).iss) (.string (fstC (intsV zs)).par) (fstC (intsV zs)).aud (fstC (intsV zs)).sc (.int .i64 (fstC (intsV zs)).fr) (.int .i64 (fstC (intsV zs)).to) (newC (intsV zs) (scE (intsV zs) 5 + 1 + 1) t7 (fstC (intsV zs))).id (newC (intsV zs) (scE (intsV zs) 5 + 1 + 1) t7 (fstC (intsV zs))).sub (newC (intsV zs) (scE (intsV zs) 5 + 1 + 1) t7 (fstC (intsV zs))).iss (newC (intsV zs) (scE (intsV zs) 5 + 1 + 1) t7 (fstC (intsV zs))).par (newC (intsV zs) (scE (intsV zs) 5 + 1 + 1) t7 (fstC (intsV zs))).aud (newC (intsV zs) (scE (intsV zs) 5 + 1 + 1) t7 (fstC (intsV zs))).sc (newC (intsV zs) (scE (intsV zs) 5 + 1 + 1) t7 (fstC (intsV zs))).fr (newC (intsV zs) (scE (intsV zs) 5 + 1 + 1) t7 (fstC (intsV zs))).to (fun v g => it 2 v g K) K
    refine itS 2 e ?_
    refine (rdT_ok (L := (newC (intsV zs) (scE (intsV zs) 5 + 1 + 1) t7 (fstC (intsV zs)))) k0 (by omega) (by omega) (by decide) (fun q => absurd y1 q) (fun _ => ?_))
    rw [show rdC F0 (intsV zs) (scE (intsV zs) (scE (intsV zs) 5 + 1 + 1) + 1) ⟨#[116, 56]⟩ (newC (intsV zs) (scE (intsV zs) 5 + 1 + 1) t7 (fstC (intsV zs))).id (newC (intsV zs) (scE (intsV zs) 5 + 1 + 1) t7 (fstC (intsV zs))).iss (newC (intsV zs) (scE (intsV zs) 5 + 1 + 1) t7 (fstC (intsV zs))).aud (newC (intsV zs) (scE (intsV zs) 5 + 1 + 1) t7 (fstC (intsV zs))).sc (newC (intsV zs) (scE (intsV zs) 5 + 1 + 1) t7 (fstC (intsV zs))).fr (newC (intsV zs) (scE (intsV zs) 5 + 1 + 1) t7 (fstC (intsV zs))).to = (newC (intsV zs) (scE (intsV zs) (scE (intsV zs) 5 + 1 + 1) + 1) t8 (newC (intsV zs) (scE (intsV zs) 5 + 1 + 1) t7 (fstC (intsV zs)))).cells from rdC_new y1]
    refine ⟨nn_cells (cs := [(fstC (intsV zs)), (newC (intsV zs) (scE (intsV zs) 5 + 1 + 1) t7 (fstC (intsV zs))), (newC (intsV zs) (scE (intsV zs) (scE (intsV zs) 5 + 1 + 1) + 1) t8 (newC (intsV zs) (scE (intsV zs) 5 + 1 + 1) t7 (fstC (intsV zs))))]) (fun c hc => by simp only [List.mem_cons, List.not_mem_nil, or_false] at hc; rcases hc with rfl | rfl | rfl <;> assumption), ?_⟩
    have e := rd32 F0 (intsV zs) (scE (intsV zs) (scE (intsV zs) (scE (intsV zs) 5 + 1 + 1) + 1) + 1) (.string (fstC (intsV zs)).id) (.string (fstC (intsV zs)).sub) (.string (fstC (intsV zs)).iss) (.string (fstC (intsV zs)).par) (fstC (intsV zs)).aud (fstC (intsV zs)).sc (.int .i64 (fstC (intsV zs)).fr) (.int .i64 (fstC (intsV zs)).to) (.string (newC (intsV zs) (scE (intsV zs) 5 + 1 + 1) t7 (fstC (intsV zs))).id) (.string (newC (intsV zs) (scE (intsV zs) 5 + 1 + 1) t7 (fstC (intsV zs))).sub) (.string (newC (intsV zs) (scE (intsV zs) 5 + 1 + 1) t7 (fstC (intsV zs))).iss) (.string (newC (intsV zs) (scE (intsV zs) 5 + 1 + 1) t7 (fstC (intsV zs))).par) (newC (intsV zs) (scE (intsV zs) 5 + 1 + 1) t7 (fstC (intsV zs))).aud (newC (intsV zs) (scE (intsV zs) 5 + 1 + 1) t7 (fstC (intsV zs))).sc (.int .i64 (newC (intsV zs) (scE (intsV zs) 5 + 1 + 1) t7 (fstC (intsV zs))).fr) (.int .i64 (newC (intsV zs) (scE (intsV zs) 5 + 1 + 1) t7 (fstC (intsV zs))).to) (newC (intsV zs) (scE (intsV zs) (scE (intsV zs) 5 + 1 + 1) + 1) t8 (newC (intsV zs) (scE (intsV zs) 5 + 1 + 1) t7 (fstC (intsV zs)))).id (newC (intsV zs) (scE (intsV zs) (scE (intsV zs) 5 + 1 + 1) + 1) t8 (newC (intsV zs) (scE (intsV zs) 5 + 1 + 1) t7 (fstC (intsV zs)))).sub (newC (intsV zs) (scE (intsV zs) (scE (intsV zs) 5 + 1 + 1) + 1) t8 (newC (intsV zs) (scE (intsV zs) 5 + 1 + 1) t7 (fstC (intsV zs)))).iss (newC (intsV zs) (scE (intsV zs) (scE (intsV zs) 5 + 1 + 1) + 1) t8 (newC (intsV zs) (scE (intsV zs) 5 + 1 + 1) t7 (fstC (intsV zs)))).par (newC (intsV zs) (scE (intsV zs) (scE (intsV zs) 5 + 1 + 1) + 1) t8 (newC (intsV zs) (scE (intsV zs) 5 + 1 + 1) t7 (fstC (intsV zs)))).aud (newC (intsV zs) (scE (intsV zs) (scE (intsV zs) 5 + 1 + 1) + 1) t8 (newC (intsV zs) (scE (intsV zs) 5 + 1 + 1) t7 (fstC (intsV zs)))).sc (newC (intsV zs) (scE (intsV zs) (scE (intsV zs) 5 + 1 + 1) + 1) t8 (newC (intsV zs) (scE (intsV zs) 5 + 1 + 1) t7 (fstC (intsV zs)))).fr (newC (intsV zs) (scE (intsV zs) (scE (intsV zs) 5 + 1 + 1) + 1) t8 (newC (intsV zs) (scE (intsV zs) 5 + 1 + 1) t7 (fstC (intsV zs)))).to (fun v g => it 1 v g K) K
    refine itS 1 e ?_
    refine (rdT_ok (L := (newC (intsV zs) (scE (intsV zs) (scE (intsV zs) 5 + 1 + 1) + 1) t8 (newC (intsV zs) (scE (intsV zs) 5 + 1 + 1) t7 (fstC (intsV zs))))) k1 (by omega) (by omega) (by decide) (fun _ => ?_) (fun q => absurd q y2))
    refine ⟨nn_cells (cs := [(fstC (intsV zs)), (newC (intsV zs) (scE (intsV zs) 5 + 1 + 1) t7 (fstC (intsV zs))), (newC (intsV zs) (scE (intsV zs) (scE (intsV zs) 5 + 1 + 1) + 1) t8 (newC (intsV zs) (scE (intsV zs) 5 + 1 + 1) t7 (fstC (intsV zs))))]) (fun c hc => by simp only [List.mem_cons, List.not_mem_nil, or_false] at hc; rcases hc with rfl | rfl | rfl <;> assumption), ?_⟩
    exact itS 0 (rdx F0 (intsV zs) (scE (intsV zs) (scE (intsV zs) (scE (intsV zs) (scE (intsV zs) 5 + 1 + 1) + 1) + 1) + 1) 3 (([(fstC (intsV zs)), (newC (intsV zs) (scE (intsV zs) 5 + 1 + 1) t7 (fstC (intsV zs))), (newC (intsV zs) (scE (intsV zs) (scE (intsV zs) 5 + 1 + 1) + 1) t8 (newC (intsV zs) (scE (intsV zs) 5 + 1 + 1) t7 (fstC (intsV zs))))] : List Cl).flatMap Cl.cells) _ K) ⟨nn_cells (cs := [(fstC (intsV zs)), (newC (intsV zs) (scE (intsV zs) 5 + 1 + 1) t7 (fstC (intsV zs))), (newC (intsV zs) (scE (intsV zs) (scE (intsV zs) 5 + 1 + 1) + 1) t8 (newC (intsV zs) (scE (intsV zs) 5 + 1 + 1) t7 (fstC (intsV zs))))]) (fun c hc => by simp only [List.mem_cons, List.not_mem_nil, or_false] at hc; rcases hc with rfl | rfl | rfl <;> assumption), hK⟩
  have hC : LoopsOK 0 Tryz.prog 109 (Lch (fun vals h => vals = rdV 1 0 ∧ h = rdH (intsV zs) (scE (intsV zs) 5 + 1 + 1) (fstC (intsV zs)).cells) 3 (([(fstC (intsV zs)), (newC (intsV zs) (scE (intsV zs) 5 + 1 + 1) t7 (fstC (intsV zs))), (newC (intsV zs) (scE (intsV zs) (scE (intsV zs) 5 + 1 + 1) + 1) t8 (newC (intsV zs) (scE (intsV zs) 5 + 1 + 1) t7 (fstC (intsV zs))))] : List Cl).flatMap Cl.cells)) (codeOf Tryz.f4) := by
    refine loops_one one6c (hook_ok (G := []) (L := noHooks) (f := 3000) (sameX := [0]) SLf_ok mixed (by decide) (loops_none _ _ _ _) ?_)
    rintro vals h K ⟨⟨rfl, rfl⟩, hK⟩
    exact hloop K hK
  refine FnOK.ttree SLf_ok mixed Tryz.func4 some4 hC (fin3 F0 (intsV zs) (fstC (intsV zs)).id (fstC (intsV zs)).sub (fstC (intsV zs)).iss (fstC (intsV zs)).par (fstC (intsV zs)).aud (fstC (intsV zs)).sc (fstC (intsV zs)).fr (fstC (intsV zs)).to (newC (intsV zs) (scE (intsV zs) 5 + 1 + 1) t7 (fstC (intsV zs))).id (newC (intsV zs) (scE (intsV zs) 5 + 1 + 1) t7 (fstC (intsV zs))).sub (newC (intsV zs) (scE (intsV zs) 5 + 1 + 1) t7 (fstC (intsV zs))).iss (newC (intsV zs) (scE (intsV zs) 5 + 1 + 1) t7 (fstC (intsV zs))).par (newC (intsV zs) (scE (intsV zs) 5 + 1 + 1) t7 (fstC (intsV zs))).aud (newC (intsV zs) (scE (intsV zs) 5 + 1 + 1) t7 (fstC (intsV zs))).sc (newC (intsV zs) (scE (intsV zs) 5 + 1 + 1) t7 (fstC (intsV zs))).fr (newC (intsV zs) (scE (intsV zs) 5 + 1 + 1) t7 (fstC (intsV zs))).to (newC (intsV zs) (scE (intsV zs) (scE (intsV zs) 5 + 1 + 1) + 1) t8 (newC (intsV zs) (scE (intsV zs) 5 + 1 + 1) t7 (fstC (intsV zs)))).id (newC (intsV zs) (scE (intsV zs) (scE (intsV zs) 5 + 1 + 1) + 1) t8 (newC (intsV zs) (scE (intsV zs) 5 + 1 + 1) t7 (fstC (intsV zs)))).sub (newC (intsV zs) (scE (intsV zs) (scE (intsV zs) 5 + 1 + 1) + 1) t8 (newC (intsV zs) (scE (intsV zs) 5 + 1 + 1) t7 (fstC (intsV zs)))).iss (newC (intsV zs) (scE (intsV zs) (scE (intsV zs) 5 + 1 + 1) + 1) t8 (newC (intsV zs) (scE (intsV zs) 5 + 1 + 1) t7 (fstC (intsV zs)))).par (newC (intsV zs) (scE (intsV zs) (scE (intsV zs) 5 + 1 + 1) + 1) t8 (newC (intsV zs) (scE (intsV zs) 5 + 1 + 1) t7 (fstC (intsV zs)))).aud (newC (intsV zs) (scE (intsV zs) (scE (intsV zs) 5 + 1 + 1) + 1) t8 (newC (intsV zs) (scE (intsV zs) 5 + 1 + 1) t7 (fstC (intsV zs)))).sc (newC (intsV zs) (scE (intsV zs) (scE (intsV zs) 5 + 1 + 1) + 1) t8 (newC (intsV zs) (scE (intsV zs) 5 + 1 + 1) t7 (fstC (intsV zs)))).fr (newC (intsV zs) (scE (intsV zs) (scE (intsV zs) 5 + 1 + 1) + 1) t8 (newC (intsV zs) (scE (intsV zs) 5 + 1 + 1) t7 (fstC (intsV zs)))).to _ (fun v => v = .bool true)) (beg_ok ⟨rfl, rfl⟩ ?_)
  have cl : allV (unF (newC (intsV zs) (scE (intsV zs) (scE (intsV zs) 5 + 1 + 1) + 1) t8 (newC (intsV zs) (scE (intsV zs) 5 + 1 + 1) t7 (fstC (intsV zs)))).sc) (unF (newC (intsV zs) (scE (intsV zs) (scE (intsV zs) 5 + 1 + 1) + 1) t8 (newC (intsV zs) (scE (intsV zs) 5 + 1 + 1) t7 (fstC (intsV zs)))).sc) = true := allV_refl k1.ten
  have c1 : allV (unF (newC (intsV zs) (scE (intsV zs) 5 + 1 + 1) t7 (fstC (intsV zs))).sc) (unF (newC (intsV zs) (scE (intsV zs) (scE (intsV zs) 5 + 1 + 1) + 1) t8 (newC (intsV zs) (scE (intsV zs) 5 + 1 + 1) t7 (fstC (intsV zs)))).sc) = true := allV_trans k0.ten k1.ten k1.ten x1.sc cl
  have c0 : allV (unF (fstC (intsV zs)).sc) (unF (newC (intsV zs) (scE (intsV zs) (scE (intsV zs) 5 + 1 + 1) + 1) t8 (newC (intsV zs) (scE (intsV zs) 5 + 1 + 1) t7 (fstC (intsV zs)))).sc) = true := allV_trans hf.ten k0.ten k1.ten x0.sc c1
  have f0 := x0.fr
  have g0 := x0.to
  have f1 := x1.fr
  have g1 := x1.to
  refine fin_ok (c0 := (fstC (intsV zs))) (rest := [(newC (intsV zs) (scE (intsV zs) 5 + 1 + 1) t7 (fstC (intsV zs))), (newC (intsV zs) (scE (intsV zs) (scE (intsV zs) 5 + 1 + 1) + 1) t8 (newC (intsV zs) (scE (intsV zs) 5 + 1 + 1) t7 (fstC (intsV zs))))]) (L := (newC (intsV zs) (scE (intsV zs) (scE (intsV zs) 5 + 1 + 1) + 1) t8 (newC (intsV zs) (scE (intsV zs) 5 + 1 + 1) t7 (fstC (intsV zs))))) (fun c hc => by simp only [List.mem_cons, List.not_mem_nil, or_false] at hc; rcases hc with rfl | rfl | rfl <;> assumption) k1 ?_ rfl ⟨x0, x1, trivial⟩ ?_ rfl
  · intro e he
    simp only [List.mem_cons, List.not_mem_nil, or_false] at he
    rcases he with rfl | rfl | rfl
    · exact ⟨c0, by omega, by omega⟩
    · exact ⟨c1, by omega, by omega⟩
    · exact ⟨cl, by omega, by omega⟩
  · simp only [List.pairwise_cons, List.mem_cons, List.not_mem_nil, or_false, List.Pairwise.nil, and_true, forall_eq_or_imp, forall_eq, false_imp_iff, implies_true]
    exact ⟨⟨n7, n8⟩, t78⟩
theorem path111 (zs : List Int) (y0 : errC (intsV zs) (scE (intsV zs) 5 + 1 + 1) t7 (fstC (intsV zs)) = 0) (y1 : errC (intsV zs) (scE (intsV zs) (scE (intsV zs) 5 + 1 + 1) + 1) t8 (newC (intsV zs) (scE (intsV zs) 5 + 1 + 1) t7 (fstC (intsV zs))) = 0) (y2 : errC (intsV zs) (scE (intsV zs) (scE (intsV zs) (scE (intsV zs) 5 + 1 + 1) + 1) + 1) t9 (newC (intsV zs) (scE (intsV zs) (scE (intsV zs) 5 + 1 + 1) + 1) t8 (newC (intsV zs) (scE (intsV zs) 5 + 1 + 1) t7 (fstC (intsV zs)))) = 0) : FnOK 0 Tryz.prog 4 ⟨[fz (intsV zs)]⟩ h0 (fun v _ => v = .bool true) := by
  obtain ⟨hf, hid⟩ := fst_ok zs
  obtain ⟨n7, n8, n9⟩ := id0_ne hid
  have e0 := scE_in zs (d := 5) (by omega) (by omega)
  have e1 := scE_in zs (d := (scE (intsV zs) 5 + 1 + 1)) (by omega) (by omega)
  have e2 := scE_in zs (d := (scE (intsV zs) (scE (intsV zs) 5 + 1 + 1) + 1)) (by omega) (by omega)
  have e3 := scE_in zs (d := (scE (intsV zs) (scE (intsV zs) (scE (intsV zs) 5 + 1 + 1) + 1) + 1)) (by omega) (by omega)
  obtain ⟨k0, x0⟩ := new_ok (zs := zs) (d := (scE (intsV zs) 5 + 1 + 1)) (idn := t7) (L := (fstC (intsV zs))) hf (by omega) (by omega) (by decide) y0
  obtain ⟨k1, x1⟩ := new_ok (zs := zs) (d := (scE (intsV zs) (scE (intsV zs) 5 + 1 + 1) + 1)) (idn := t8) (L := (newC (intsV zs) (scE (intsV zs) 5 + 1 + 1) t7 (fstC (intsV zs)))) k0 (by omega) (by omega) (by decide) y1
  obtain ⟨k2, x2⟩ := new_ok (zs := zs) (d := (scE (intsV zs) (scE (intsV zs) (scE (intsV zs) 5 + 1 + 1) + 1) + 1)) (idn := t9) (L := (newC (intsV zs) (scE (intsV zs) (scE (intsV zs) 5 + 1 + 1) + 1) t8 (newC (intsV zs) (scE (intsV zs) 5 + 1 + 1) t7 (fstC (intsV zs))))) k1 (by omega) (by omega) (by decide) y2
  have hloop : ∀ K : AExit → List Value → AH → Prop, K (.exit 0) [.slice (some ⟨0, 0, none⟩) 4 4] (chH (([(fstC (intsV zs)), (newC (intsV zs) (scE (intsV zs) 5 + 1 + 1) t7 (fstC (intsV zs))), (newC (intsV zs) (scE (intsV zs) (scE (intsV zs) 5 + 1 + 1) + 1) t8 (newC (intsV zs) (scE (intsV zs) 5 + 1 + 1) t7 (fstC (intsV zs)))), (newC (intsV zs) (scE (intsV zs) (scE (intsV zs) (scE (intsV zs) 5 + 1 + 1) + 1) + 1) t9 (newC (intsV zs) (scE (intsV zs) (scE (intsV zs) 5 + 1 + 1) + 1) t8 (newC (intsV zs) (scE (intsV zs) 5 + 1 + 1) t7 (fstC (intsV zs)))))] : List Cl).flatMap Cl.cells)) → ∃ n, iter 0 Tryz.prog (SLf F0) [] noHooks 3000 109 [3, 5, 24, 25, 26] [1] [5] [0] (oneLoop (codeOf Tryz.f4) 6) n (rdV 1 0) (rdH (intsV zs) (scE (intsV zs) 5 + 1 + 1) (fstC (intsV zs)).cells) K := by
    intro K hK
    refine itI (n := 3 + 1) ?_
    have e := rd10 F0 (intsV zs) (scE (intsV zs) 5 + 1 + 1) (fstC (intsV zs)).id (fstC (intsV zs)).sub (fstC (intsV zs)).iss (fstC (intsV zs)).par (fstC (intsV zs)).aud (fstC (intsV zs)).sc (fstC (intsV zs)).fr (fstC (intsV zs)).to (fun v g => it 3 v g K) K
    refine itS 3 e ?_
    refine (rdT_ok (L := (fstC (intsV zs))) hf (by omega) (by omega) (by decide) (fun q => absurd y0 q) (fun _ => ?_))
    rw [show rdC F0 (intsV zs) (scE (intsV zs) 5 + 1 + 1) ⟨#[116, 55]⟩ (fstC (intsV zs)).id (fstC (intsV zs)).iss (fstC (intsV zs)).aud (fstC (intsV zs)).sc (fstC (intsV zs)).fr (fstC (intsV zs)).to = (newC (intsV zs) (scE (intsV zs) 5 + 1 + 1) t7 (fstC (intsV zs))).cells from rdC_new y0]
    refine ⟨nn_cells (cs := [(fstC (intsV zs)), (newC (intsV zs) (scE (intsV zs) 5 + 1 + 1) t7 (fstC (intsV zs)))]) (fun c hc => by simp only [List.mem_cons, List.not_mem_nil, or_false] at hc; rcases hc with rfl | rfl <;> assumption), ?_⟩
    have e := rd21 F0 (intsV zs) (scE (intsV zs) (scE (intsV zs) 5 + 1 + 1) + 1) (.string (fstC (intsV zs)).id) (.string (fstC (intsV zs)).sub) (.string (fstC (intsV zs)).iss) (.string (fstC (intsV zs)).par) (fstC (intsV zs)).aud (fstC (intsV zs)).sc (.int .i64 (fstC (intsV zs)).fr) (.int .i64 (fstC (intsV zs)).to) (newC (intsV zs) (scE (intsV zs) 5 + 1 + 1) t7 (fstC (intsV zs))).id (newC (intsV zs) (scE (intsV zs) 5 + 1 + 1) t7 (fstC (intsV zs))).sub (newC (intsV zs) (scE (intsV zs) 5 + 1 + 1) t7 (fstC (intsV zs))).iss (newC (intsV zs) (scE (intsV zs) 5 + 1 + 1) t7 (fstC (intsV zs))).par (newC (intsV zs) (scE (intsV zs) 5 + 1 + 1) t7 (fstC (intsV zs))).aud (newC (intsV zs) (scE (intsV zs) 5 + 1 + 1) t7 (fstC (intsV zs))).sc (newC (intsV zs) (scE (intsV zs) 5 + 1 + 1) t7 (fstC (intsV zs))).fr (newC (intsV zs) (scE (intsV zs) 5 + 1 + 1) t7 (fstC (intsV zs))).to (fun v g => it 2 v g K) K
    refine itS 2 e ?_
    refine (rdT_ok (L := (newC (intsV zs) (scE (intsV zs) 5 + 1 + 1) t7 (fstC (intsV zs)))) k0 (by omega) (by omega) (by decide) (fun q => absurd y1 q) (fun _ => ?_))
    rw [show rdC F0 (intsV zs) (scE (intsV zs) (scE (intsV zs) 5 + 1 + 1) + 1) ⟨#[116, 56]⟩ (newC (intsV zs) (scE (intsV zs) 5 + 1 + 1) t7 (fstC (intsV zs))).id (newC (intsV zs) (scE (intsV zs) 5 + 1 + 1) t7 (fstC (intsV zs))).iss (newC (intsV zs) (scE (intsV zs) 5 + 1 + 1) t7 (fstC (intsV zs))).aud (newC (intsV zs) (scE (intsV zs) 5 + 1 + 1) t7 (fstC (intsV zs))).sc (newC (intsV zs) (scE (intsV zs) 5 + 1 + 1) t7 (fstC (intsV zs))).fr (newC (intsV zs) (scE (intsV zs) 5 + 1 + 1) t7 (fstC (intsV zs))).to = (newC (intsV zs) (scE (intsV zs) (scE (intsV zs) 5 + 1 + 1) + 1) t8 (newC (intsV zs) (scE (intsV zs) 5 + 1 + 1) t7 (fstC (intsV zs)))).cells from rdC_new y1]
    refine ⟨nn_cells (cs := [(fstC (intsV zs)), (newC (intsV zs) (scE (intsV zs) 5 + 1 + 1) t7 (fstC (intsV zs))), (newC (intsV zs) (scE (intsV zs) (scE (intsV zs) 5 + 1 + 1) + 1) t8 (newC (intsV zs) (scE (intsV zs) 5 + 1 + 1) t7 (fstC (intsV zs))))]) (fun c hc => by simp only [List.mem_cons, List.not_mem_nil, or_false] at hc; rcases hc with rfl | rfl | rfl <;> assumption), ?_⟩
    have e := rd32 F0 (intsV zs) (scE (intsV zs) (scE (intsV zs) (scE (intsV zs) 5 + 1 + 1) + 1) + 1) (.string (fstC (intsV zs)).id) (.string (fstC (intsV zs)).sub) (.string (fstC (intsV zs)).iss) (.string (fstC (intsV zs)).par) (fstC (intsV zs)).aud (fstC (intsV zs)).sc (.int .i64 (fstC (intsV zs)).fr) (.int .i64 (fstC (intsV zs)).to) (.string (newC (intsV zs) (scE (intsV zs) 5 + 1 + 1) t7 (fstC (intsV zs))).id) (.string (newC (intsV zs) (scE (intsV zs) 5 + 1 + 1) t7 (fstC (intsV zs))).sub) (.string (newC (intsV zs) (scE (intsV zs) 5 + 1 + 1) t7 (fstC (intsV zs))).iss) (.string (newC (intsV zs) (scE (intsV zs) 5 + 1 + 1) t7 (fstC (intsV zs))).par) (newC (intsV zs) (scE (intsV zs) 5 + 1 + 1) t7 (fstC (intsV zs))).aud (newC (intsV zs) (scE (intsV zs) 5 + 1 + 1) t7 (fstC (intsV zs))).sc (.int .i64 (newC (intsV zs) (scE (intsV zs) 5 + 1 + 1) t7 (fstC (intsV zs))).fr) (.int .i64 (newC (intsV zs) (scE (intsV zs) 5 + 1 + 1) t7 (fstC (intsV zs))).to) (newC (intsV zs) (scE (intsV zs) (scE (intsV zs) 5 + 1 + 1) + 1) t8 (newC (intsV zs) (scE (intsV zs) 5 + 1 + 1) t7 (fstC (intsV zs)))).id (newC (intsV zs) (scE (intsV zs) (scE (intsV zs) 5 + 1 + 1) + 1) t8 (newC (intsV zs) (scE (intsV zs) 5 + 1 + 1) t7 (fstC (intsV zs)))).sub (newC (intsV zs) (scE (intsV zs) (scE (intsV zs) 5 + 1 + 1) + 1) t8 (newC (intsV zs) (scE (intsV zs) 5 + 1 + 1) t7 (fstC (intsV zs)))).iss (newC (intsV zs) (scE (intsV zs) (scE (intsV zs) 5 + 1 + 1) + 1) t8 (newC (intsV zs) (scE (intsV zs) 5 + 1 + 1) t7 (fstC (intsV zs)))).par (newC (intsV zs) (scE (intsV zs) (scE (intsV zs) 5 + 1 + 1) + 1) t8 (newC (intsV zs) (scE (intsV zs) 5 + 1 + 1) t7 (fstC (intsV zs)))).aud (newC (intsV zs) (scE (intsV zs) (scE (intsV zs) 5 + 1 + 1) + 1) t8 (newC (intsV zs) (scE (intsV zs) 5 + 1 + 1) t7 (fstC (intsV zs)))).sc (newC (intsV zs) (scE (intsV zs) (scE (intsV zs) 5 + 1 + 1) + 1) t8 (newC (intsV zs) (scE (intsV zs) 5 + 1 + 1) t7 (fstC (intsV zs)))).fr (newC (intsV zs) (scE (intsV zs) (scE (intsV zs) 5 + 1 + 1) + 1) t8 (newC (intsV zs) (scE (intsV zs) 5 + 1 + 1) t7 (fstC (intsV zs)))).to (fun v g => it 1 v g K) K
    refine itS 1 e ?_
    refine (rdT_ok (L := (newC (intsV zs) (scE (intsV zs) (scE (intsV zs) 5 + 1 + 1) + 1) t8 (newC (intsV zs) (scE (intsV zs) 5 + 1 + 1) t7 (fstC (intsV zs))))) k1 (by omega) (by omega) (by decide) (fun q => absurd y2 q) (fun _ => ?_))
    rw [show rdC F0 (intsV zs) (scE (intsV zs) (scE (intsV zs) (scE (intsV zs) 5 + 1 + 1) + 1) + 1) ⟨#[116, 57]⟩ (newC (intsV zs) (scE (intsV zs) (scE (intsV zs) 5 + 1 + 1) + 1) t8 (newC (intsV zs) (scE (intsV zs) 5 + 1 + 1) t7 (fstC (intsV zs)))).id (newC (intsV zs) (scE (intsV zs) (scE (intsV zs) 5 + 1 + 1) + 1) t8 (newC (intsV zs) (scE (intsV zs) 5 + 1 + 1) t7 (fstC (intsV zs)))).iss (newC (intsV zs) (scE (intsV zs) (scE (intsV zs) 5 + 1 + 1) + 1) t8 (newC (intsV zs) (scE (intsV zs) 5 + 1 + 1) t7 (fstC (intsV zs)))).aud (newC (intsV zs) (scE (intsV zs) (scE (intsV zs) 5 + 1 + 1) + 1) t8 (newC (intsV zs) (scE (intsV zs) 5 + 1 + 1) t7 (fstC (intsV zs)))).sc (newC (intsV zs) (scE (intsV zs) (scE (intsV zs) 5 + 1 + 1) + 1) t8 (newC (intsV zs) (scE (intsV zs) 5 + 1 + 1) t7 (fstC (intsV zs)))).fr (newC (intsV zs) (scE (intsV zs) (scE (intsV zs) 5 + 1 + 1) + 1) t8 (newC (intsV zs) (scE (intsV zs) 5 + 1 + 1) t7 (fstC (intsV zs)))).to = (newC (intsV zs) (scE (intsV zs) (scE (intsV zs) (scE (intsV zs) 5 + 1 + 1) + 1) + 1) t9 (newC (intsV zs) (scE (intsV zs) (scE (intsV zs) 5 + 1 + 1) + 1) t8 (newC (intsV zs) (scE (intsV zs) 5 + 1 + 1) t7 (fstC (intsV zs))))).cells from rdC_new y2]
    refine ⟨nn_cells (cs := [(fstC (intsV zs)), (newC (intsV zs) (scE (intsV zs) 5 + 1 + 1) t7 (fstC (intsV zs))), (newC (intsV zs) (scE (intsV zs) (scE (intsV zs) 5 + 1 + 1) + 1) t8 (newC (intsV zs) (scE (intsV zs) 5 + 1 + 1) t7 (fstC (intsV zs)))), (newC (intsV zs) (scE (intsV zs) (scE (intsV zs) (scE (intsV zs) 5 + 1 + 1) + 1) + 1) t9 (newC (intsV zs) (scE (intsV zs) (scE (intsV zs) 5 + 1 + 1) + 1) t8 (newC (intsV zs) (scE (intsV zs) 5 + 1 + 1) t7 (fstC (intsV zs)))))]) (fun c hc => by simp only [List.mem_cons, List.not_mem_nil, or_false] at hc; rcases hc with rfl | rfl | rfl | rfl <;> assumption), ?_⟩
    exact itS 0 (rdx F0 (intsV zs) (scE (intsV zs) (scE (intsV zs) (scE (intsV zs) (scE (intsV zs) 5 + 1 + 1) + 1) + 1) + 1) 4 (([(fstC (intsV zs)), (newC (intsV zs) (scE (intsV zs) 5 + 1 + 1) t7 (fstC (intsV zs))), (newC (intsV zs) (scE (intsV zs) (scE (intsV zs) 5 + 1 + 1) + 1) t8 (newC (intsV zs) (scE (intsV zs) 5 + 1 + 1) t7 (fstC (intsV zs)))), (newC (intsV zs) (scE (intsV zs) (scE (intsV zs) (scE (intsV zs) 5 + 1 + 1) + 1) + 1) t9 (newC (intsV zs) (scE (intsV zs) (scE (intsV zs) 5 + 1 + 1) + 1) t8 (newC (intsV zs) (scE (intsV zs) 5 + 1 + 1) t7 (fstC (intsV zs)))))] : List Cl).flatMap Cl.cells) _ K) ⟨nn_cells (cs := [(fstC (intsV zs)), (newC (intsV zs) (scE (intsV zs) 5 + 1 + 1) t7 (fstC (intsV zs))), (newC (intsV zs) (scE (intsV zs) (scE (intsV zs) 5 + 1 + 1) + 1) t8 (newC (intsV zs) (scE (intsV zs) 5 + 1 + 1) t7 (fstC (intsV zs)))), (newC (intsV zs) (scE (intsV zs) (scE (intsV zs) (scE (intsV zs) 5 + 1 + 1) + 1) + 1) t9 (newC (intsV zs) (scE (intsV zs) (scE (intsV zs) 5 + 1 + 1) + 1) t8 (newC (intsV zs) (scE (intsV zs) 5 + 1 + 1) t7 (fstC (intsV zs)))))]) (fun c hc => by simp only [List.mem_cons, List.not_mem_nil, or_false] at hc; rcases hc with rfl | rfl | rfl | rfl <;> assumption), hK⟩
  have hC : LoopsOK 0 Tryz.prog 109 (Lch (fun vals h => vals = rdV 1 0 ∧ h = rdH (intsV zs) (scE (intsV zs) 5 + 1 + 1) (fstC (intsV zs)).cells) 4 (([(fstC (intsV zs)), (newC (intsV zs) (scE (intsV zs) 5 + 1 + 1) t7 (fstC (intsV zs))), (newC (intsV zs) (scE (intsV zs) (scE (intsV zs) 5 + 1 + 1) + 1) t8 (newC (intsV zs) (scE (intsV zs) 5 + 1 + 1) t7 (fstC (intsV zs)))), (newC (intsV zs) (scE (intsV zs) (scE (intsV zs) (scE (intsV zs) 5 + 1 + 1) + 1) + 1) t9 (newC (intsV zs) (scE (intsV zs) (scE (intsV zs) 5 + 1 + 1) + 1) t8 (newC (intsV zs) (scE (intsV zs) 5 + 1 + 1) t7 (fstC (intsV zs)))))] : List Cl).flatMap Cl.cells)) (codeOf Tryz.f4) := by
    refine loops_one one6c (hook_ok (G := []) (L := noHooks) (f := 3000) (sameX := [0]) SLf_ok mixed (by decide) (loops_none _ _ _ _) ?_)
    rintro vals h K ⟨⟨rfl, rfl⟩, hK⟩
    exact hloop K hK
  refine FnOK.ttree SLf_ok mixed Tryz.func4 some4 hC (fin4 F0 (intsV zs) (fstC (intsV zs)).id (fstC (intsV zs)).sub (fstC (intsV zs)).iss (fstC (intsV zs)).par (fstC (intsV zs)).aud (fstC (intsV zs)).sc (fstC (intsV zs)).fr (fstC (intsV zs)).to (newC (intsV zs) (scE (intsV zs) 5 + 1 + 1) t7 (fstC (intsV zs))).id (newC (intsV zs) (scE (intsV zs) 5 + 1 + 1) t7 (fstC (intsV zs))).sub (newC (intsV zs) (scE (intsV zs) 5 + 1 + 1) t7 (fstC (intsV zs))).iss (newC (intsV zs) (scE (intsV zs) 5 + 1 + 1) t7 (fstC (intsV zs))).par (newC (intsV zs) (scE (intsV zs) 5 + 1 + 1) t7 (fstC (intsV zs))).aud (newC (intsV zs) (scE (intsV zs) 5 + 1 + 1) t7 (fstC (intsV zs))).sc (newC (intsV zs) (scE (intsV zs) 5 + 1 + 1) t7 (fstC (intsV zs))).fr (newC (intsV zs) (scE (intsV zs) 5 + 1 + 1) t7 (fstC (intsV zs))).to (newC (intsV zs) (scE (intsV zs) (scE (intsV zs) 5 + 1 + 1) + 1) t8 (newC (intsV zs) (scE (intsV zs) 5 + 1 + 1) t7 (fstC (intsV zs)))).id (newC (intsV zs) (scE (intsV zs) (scE (intsV zs) 5 + 1 + 1) + 1) t8 (newC (intsV zs) (scE (intsV zs) 5 + 1 + 1) t7 (fstC (intsV zs)))).sub (newC (intsV zs) (scE (intsV zs) (scE (intsV zs) 5 + 1 + 1) + 1) t8 (newC (intsV zs) (scE (intsV zs) 5 + 1 + 1) t7 (fstC (intsV zs)))).iss (newC (intsV zs) (scE (intsV zs) (scE (intsV zs) 5 + 1 + 1) + 1) t8 (newC (intsV zs) (scE (intsV zs) 5 + 1 + 1) t7 (fstC (intsV zs)))).par (newC (intsV zs) (scE (intsV zs) (scE (intsV zs) 5 + 1 + 1) + 1) t8 (newC (intsV zs) (scE (intsV zs) 5 + 1 + 1) t7 (fstC (intsV zs)))).aud (newC (intsV zs) (scE (intsV zs) (scE (intsV zs) 5 + 1 + 1) + 1) t8 (newC (intsV zs) (scE (intsV zs) 5 + 1 + 1) t7 (fstC (intsV zs)))).sc (newC (intsV zs) (scE (intsV zs) (scE (intsV zs) 5 + 1 + 1) + 1) t8 (newC (intsV zs) (scE (intsV zs) 5 + 1 + 1) t7 (fstC (intsV zs)))).fr (newC (intsV zs) (scE (intsV zs) (scE (intsV zs) 5 + 1 + 1) + 1) t8 (newC (intsV zs) (scE (intsV zs) 5 + 1 + 1) t7 (fstC (intsV zs)))).to (newC (intsV zs) (scE (intsV zs) (scE (intsV zs) (scE (intsV zs) 5 + 1 + 1) + 1) + 1) t9 (newC (intsV zs) (scE (intsV zs) (scE (intsV zs) 5 + 1 + 1) + 1) t8 (newC (intsV zs) (scE (intsV zs) 5 + 1 + 1) t7 (fstC (intsV zs))))).id (newC (intsV zs) (scE (intsV zs) (scE (intsV zs) (scE (intsV zs) 5 + 1 + 1) + 1) + 1) t9 (newC (intsV zs) (scE (intsV zs) (scE (intsV zs) 5 + 1 + 1) + 1) t8 (newC (intsV zs) (scE (intsV zs) 5 + 1 + 1) t7 (fstC (intsV zs))))).sub (newC (intsV zs) (scE (intsV zs) (scE (intsV zs) (scE (intsV zs) 5 + 1 + 1) + 1) + 1) t9 (newC (intsV zs) (scE (intsV zs) (scE (intsV zs) 5 + 1 + 1) + 1) t8 (newC (intsV zs) (scE (intsV zs) 5 + 1 + 1) t7 (fstC (intsV zs))))).iss (newC (intsV zs) (scE (intsV zs) (scE (intsV zs) (scE (intsV zs) 5 + 1 + 1) + 1) + 1) t9 (newC (intsV zs) (scE (intsV zs) (scE (intsV zs) 5 + 1 + 1) + 1) t8 (newC (intsV zs) (scE (intsV zs) 5 + 1 + 1) t7 (fstC (intsV zs))))).par (newC (intsV zs) (scE (intsV zs) (scE (intsV zs) (scE (intsV zs) 5 + 1 + 1) + 1) + 1) t9 (newC (intsV zs) (scE (intsV zs) (scE (intsV zs) 5 + 1 + 1) + 1) t8 (newC (intsV zs) (scE (intsV zs) 5 + 1 + 1) t7 (fstC (intsV zs))))).aud (newC (intsV zs) (scE (intsV zs) (scE (intsV zs) (scE (intsV zs) 5 + 1 + 1) + 1) + 1) t9 (newC (intsV zs) (scE (intsV zs) (scE (intsV zs) 5 + 1 + 1) + 1) t8 (newC (intsV zs) (scE (intsV zs) 5 + 1 + 1) t7 (fstC (intsV zs))))).sc (newC (intsV zs) (scE (intsV zs) (scE (intsV zs) (scE (intsV zs) 5 + 1 + 1) + 1) + 1) t9 (newC (intsV zs) (scE (intsV zs) (scE (intsV zs) 5 + 1 + 1) + 1) t8 (newC (intsV zs) (scE (intsV zs) 5 + 1 + 1) t7 (fstC (intsV zs))))).fr (newC (intsV zs) (scE (intsV zs) (scE (intsV zs) (scE (intsV zs) 5 + 1 + 1) + 1) + 1) t9 (newC (intsV zs) (scE (intsV zs) (scE (intsV zs) 5 + 1 + 1) + 1) t8 (newC (intsV zs) (scE (intsV zs) 5 + 1 + 1) t7 (fstC (intsV zs))))).to _ (fun v => v = .bool true)) (beg_ok ⟨rfl, rfl⟩ ?_)
  have cl : allV (unF (newC (intsV zs) (scE (intsV zs) (scE (intsV zs) (scE (intsV zs) 5 + 1 + 1) + 1) + 1) t9 (newC (intsV zs) (scE (intsV zs) (scE (intsV zs) 5 + 1 + 1) + 1) t8 (newC (intsV zs) (scE (intsV zs) 5 + 1 + 1) t7 (fstC (intsV zs))))).sc) (unF (newC (intsV zs) (scE (intsV zs) (scE (intsV zs) (scE (intsV zs) 5 + 1 + 1) + 1) + 1) t9 (newC (intsV zs) (scE (intsV zs) (scE (intsV zs) 5 + 1 + 1) + 1) t8 (newC (intsV zs) (scE (intsV zs) 5 + 1 + 1) t7 (fstC (intsV zs))))).sc) = true := allV_refl k2.ten
  have c2 : allV (unF (newC (intsV zs) (scE (intsV zs) (scE (intsV zs) 5 + 1 + 1) + 1) t8 (newC (intsV zs) (scE (intsV zs) 5 + 1 + 1) t7 (fstC (intsV zs)))).sc) (unF (newC (intsV zs) (scE (intsV zs) (scE (intsV zs) (scE (intsV zs) 5 + 1 + 1) + 1) + 1) t9 (newC (intsV zs) (scE (intsV zs) (scE (intsV zs) 5 + 1 + 1) + 1) t8 (newC (intsV zs) (scE (intsV zs) 5 + 1 + 1) t7 (fstC (intsV zs))))).sc) = true := allV_trans k1.ten k2.ten k2.ten x2.sc cl
  have c1 : allV (unF (newC (intsV zs) (scE (intsV zs) 5 + 1 + 1) t7 (fstC (intsV zs))).sc) (unF (newC (intsV zs) (scE (intsV zs) (scE (intsV zs) (scE (intsV zs) 5 + 1 + 1) + 1) + 1) t9 (newC (intsV zs) (scE (intsV zs) (scE (intsV zs) 5 + 1 + 1) + 1) t8 (newC (intsV zs) (scE (intsV zs) 5 + 1 + 1) t7 (fstC (intsV zs))))).sc) = true := allV_trans k0.ten k1.ten k2.ten x1.sc c2
  have c0 : allV (unF (fstC (intsV zs)).sc) (unF (newC (intsV zs) (scE (intsV zs) (scE (intsV zs) (scE (intsV zs) 5 + 1 + 1) + 1) + 1) t9 (newC (intsV zs) (scE (intsV zs) (scE (intsV zs) 5 + 1 + 1) + 1) t8 (newC (intsV zs) (scE (intsV zs) 5 + 1 + 1) t7 (fstC (intsV zs))))).sc) = true := allV_trans hf.ten k0.ten k2.ten x0.sc c1
  have f0 := x0.fr
  have g0 := x0.to
  have f1 := x1.fr
  have g1 := x1.to
  have f2 := x2.fr
  have g2 := x2.to
  refine fin_ok (c0 := (fstC (intsV zs))) (rest := [(newC (intsV zs) (scE (intsV zs) 5 + 1 + 1) t7 (fstC (intsV zs))), (newC (intsV zs) (scE (intsV zs) (scE (intsV zs) 5 + 1 + 1) + 1) t8 (newC (intsV zs) (scE (intsV zs) 5 + 1 + 1) t7 (fstC (intsV zs)))), (newC (intsV zs) (scE (intsV zs) (scE (intsV zs) (scE (intsV zs) 5 + 1 + 1) + 1) + 1) t9 (newC (intsV zs) (scE (intsV zs) (scE (intsV zs) 5 + 1 + 1) + 1) t8 (newC (intsV zs) (scE (intsV zs) 5 + 1 + 1) t7 (fstC (intsV zs)))))]) (L := (newC (intsV zs) (scE (intsV zs) (scE (intsV zs) (scE (intsV zs) 5 + 1 + 1) + 1) + 1) t9 (newC (intsV zs) (scE (intsV zs) (scE (intsV zs) 5 + 1 + 1) + 1) t8 (newC (intsV zs) (scE (intsV zs) 5 + 1 + 1) t7 (fstC (intsV zs)))))) (fun c hc => by simp only [List.mem_cons, List.not_mem_nil, or_false] at hc; rcases hc with rfl | rfl | rfl | rfl <;> assumption) k2 ?_ rfl ⟨x0, x1, x2, trivial⟩ ?_ rfl
  · intro e he
    simp only [List.mem_cons, List.not_mem_nil, or_false] at he
    rcases he with rfl | rfl | rfl | rfl
    · exact ⟨c0, by omega, by omega⟩
    · exact ⟨c1, by omega, by omega⟩
    · exact ⟨c2, by omega, by omega⟩
    · exact ⟨cl, by omega, by omega⟩
  · simp only [List.pairwise_cons, List.mem_cons, List.not_mem_nil, or_false, List.Pairwise.nil, and_true, forall_eq_or_imp, forall_eq, false_imp_iff, implies_true]
    exact ⟨⟨n7, n8, n9⟩, ⟨t78, t79⟩, t89⟩

namespace chainsNarrow
theorem all (zs : List Int) : FnOK 0 Tryz.prog 4 ⟨[fz (intsV zs)]⟩ h0 (fun v _ => v = .bool true) := by
  by_cases y0 : errC (intsV zs) (scE (intsV zs) 5 + 1 + 1) t7 (fstC (intsV zs)) = 0
  · by_cases y1 : errC (intsV zs) (scE (intsV zs) (scE (intsV zs) 5 + 1 + 1) + 1) t8 (newC (intsV zs) (scE (intsV zs) 5 + 1 + 1) t7 (fstC (intsV zs))) = 0
    · by_cases y2 : errC (intsV zs) (scE (intsV zs) (scE (intsV zs) (scE (intsV zs) 5 + 1 + 1) + 1) + 1) t9 (newC (intsV zs) (scE (intsV zs) (scE (intsV zs) 5 + 1 + 1) + 1) t8 (newC (intsV zs) (scE (intsV zs) 5 + 1 + 1) t7 (fstC (intsV zs)))) = 0
      · exact path111 zs y0 y1 y2
      · exact path110 zs y0 y1 y2
    · by_cases y2 : errC (intsV zs) (scE (intsV zs) (scE (intsV zs) (scE (intsV zs) 5 + 1 + 1) + 1) + 1) t9 (newC (intsV zs) (scE (intsV zs) 5 + 1 + 1) t7 (fstC (intsV zs))) = 0
      · exact path101 zs y0 y1 y2
      · exact path100 zs y0 y1 y2
  · by_cases y1 : errC (intsV zs) (scE (intsV zs) (scE (intsV zs) 5 + 1 + 1) + 1) t8 (fstC (intsV zs)) = 0
    · by_cases y2 : errC (intsV zs) (scE (intsV zs) (scE (intsV zs) (scE (intsV zs) 5 + 1 + 1) + 1) + 1) t9 (newC (intsV zs) (scE (intsV zs) (scE (intsV zs) 5 + 1 + 1) + 1) t8 (fstC (intsV zs))) = 0
      · exact path011 zs y0 y1 y2
      · exact path010 zs y0 y1 y2
    · by_cases y2 : errC (intsV zs) (scE (intsV zs) (scE (intsV zs) (scE (intsV zs) 5 + 1 + 1) + 1) + 1) t9 (fstC (intsV zs)) = 0
      · exact path001 zs y0 y1 y2
      · exact path000 zs y0 y1 y2

theorem walk (a0 : Option Addr) (len0 cap0 : Nat) (z0 : List Int) (w : World) (w0 : IsRow .i64 w a0 len0 cap0 z0) :
    Calls Tryz.prog 4 #[.slice a0 len0 cap0] w fun e w' => e = .returned (.bool true) ∧ Below w.heap.size w w' := IsRow.law all a0 len0 cap0 z0 w w0
end chainsNarrow
end Go.Proofs.YtlgoekbfohhplaaGreatDoor
