/-
  Catalogs as they are drawn: 'RightCatalog' as a specification.
-/
import Derived.Test.YtfepnpffbhjakaaGreatDoorPgF
namespace Go.Proofs.YtfepnpffbhjakaaGreatDoor
open Go.Ev Go.RowKit PriceLaw

noncomputable def SF (e : Bool) : SC := ⟨idn, spOr (spRT e) (spNext []), true, true⟩
def rcX : List Value := [.pointer (some ⟨0, 0, none⟩), .pointer (some ⟨1, 0, none⟩), .pointer (some ⟨2, 0, none⟩)]
def rxN (xs : Array Value) (d : Int) (ps : List Value) : AH := ⟨3, 3, [(0, strm xs d), (1, .cells ⟨[.slice none 0 0, .slice none 0 0]⟩ 29 (0, 0)), (2, .cells ⟨[fz ⟨ps⟩, .slice none 0 0]⟩ 29 (0, 0))]⟩
def rxB (xs : Array Value) (d : Int) (ps cs : List Value) (k : Nat) : AH := ⟨4, 4, [(0, strm xs d), (1, .cells ⟨[.slice none 0 0, .slice none 0 0]⟩ 29 (0, 0)), (2, .cells ⟨[fz ⟨ps⟩, .slice (some ⟨3, 0, none⟩) k k]⟩ 29 (0, 0)), (3, .cells ⟨cs⟩ 37 (0, 0))]⟩
noncomputable def Lrc (C : List Value → AH → Prop) (H : AH) : Hooks := hookOr (ghost1 1 (thenG (freezeH 13 3 false 1) (freezeH 3 0 true 2))) (hook1 3 (thenLS (hookLS 1 71 [0, 2, 3, 15, 16, 17] [4] [0, 2, 3] (fun vals h K => C vals h ∧ K (.exit 0) rcX H)) (freezeH 3 1 true 8)))
theorem SF_ok (e : Bool) : (SF e).cfg.OK Tryz.prog := ((spRT_ok e).or (spNext_ok [])).cfg
theorem rcNN (xs : Array Value) (d : Int) (ps cs : List Value) (k : Nat) (C : List Value → AH → Prop) (Q : Value → Option Obj → Prop) : (tfn Tryz.prog (SF true) [] (Lrc C (rxN xs d ps)) 3000 [] Tryz.f4 [.pointer (some ⟨0, 0, none⟩)] (h1 (strm xs 0)) (fun v h => Q v (h.get 0))) = bif decide (nextR xs 0 5 = 0) == true && allInts xs then C [Value.pointer (some { block := 0, off := 0 }), Value.pointer (some { block := 1, off := 0 }), Value.pointer (some { block := 2, off := 0 }), Value.slice (some { block := 3, off := 0 }) 4 4, Value.int IntKind.i64 4, Value.int IntKind.i64 0] { next := 4, low := 4, blocks := [(0, Obj.cells { toList := [Value.func (Fn.yield 0) xs { toList := [] }, Value.int IntKind.i64 (scE xs 0)] } 25 (0, 0)), (1, Obj.cells { toList := [Value.slice none 0 0, Value.slice none 0 0] } 29 (0, 0)), (2, Obj.cells { toList := [Value.func (Fn.yield 0) { toList := [Value.agg { toList := [Value.string { data := #[109, 97, 112, 115] }, Value.slice none 0 0] }, Value.agg { toList := [Value.string { data := #[115, 104, 111, 112] }, Value.func (Fn.yield 0) { toList := [Value.string { data := #[111, 114, 100, 101, 114, 115] }] } { toList := [] }] }] } { toList := [] }, Value.slice none 0 0] } 29 (0, 0)), (3, Obj.cells { toList := keyC } 9 (0, 0))] } ∧ Q (Value.agg { toList := [Value.func (Fn.yield 0) { toList := ps } { toList := [] }, Value.func (Fn.yield 0) { toList := [] } { toList := [] }] }) (some (Obj.cells { toList := [Value.func (Fn.yield 0) xs { toList := [] }, Value.int IntKind.i64 d] } 25 (0, 0))) else False := by kernel_rfl
theorem rcNB (xs : Array Value) (d : Int) (ps cs : List Value) (k : Nat) (C : List Value → AH → Prop) (Q : Value → Option Obj → Prop) : (tfn Tryz.prog (SF true) [] (Lrc C (rxB xs d ps cs k)) 3000 [] Tryz.f4 [.pointer (some ⟨0, 0, none⟩)] (h1 (strm xs 0)) (fun v h => Q v (h.get 0))) = bif decide (nextR xs 0 5 = 0) == true && allInts xs then C [Value.pointer (some { block := 0, off := 0 }), Value.pointer (some { block := 1, off := 0 }), Value.pointer (some { block := 2, off := 0 }), Value.slice (some { block := 3, off := 0 }) 4 4, Value.int IntKind.i64 4, Value.int IntKind.i64 0] { next := 4, low := 4, blocks := [(0, Obj.cells { toList := [Value.func (Fn.yield 0) xs { toList := [] }, Value.int IntKind.i64 (scE xs 0)] } 25 (0, 0)), (1, Obj.cells { toList := [Value.slice none 0 0, Value.slice none 0 0] } 29 (0, 0)), (2, Obj.cells { toList := [Value.func (Fn.yield 0) { toList := [Value.agg { toList := [Value.string { data := #[109, 97, 112, 115] }, Value.slice none 0 0] }, Value.agg { toList := [Value.string { data := #[115, 104, 111, 112] }, Value.func (Fn.yield 0) { toList := [Value.string { data := #[111, 114, 100, 101, 114, 115] }] } { toList := [] }] }] } { toList := [] }, Value.slice none 0 0] } 29 (0, 0)), (3, Obj.cells { toList := keyC } 9 (0, 0))] } ∧ bif (Array.mk cs).toList.all p1 && k.ble k && (k * 8).ble (Array.mk cs).size && true then Q (Value.agg { toList := [Value.func (Fn.yield 0) { toList := ps } { toList := [] }, Value.func (Fn.yield 0) { toList := chunk true 8 k (Array.mk cs).toList } { toList := [] }] }) (some (Obj.cells { toList := [Value.func (Fn.yield 0) xs { toList := [] }, Value.int IntKind.i64 d] } 25 (0, 0))) else False else False := by kernel_rfl
theorem rcSN (xs : Array Value) (d : Int) (ps cs : List Value) (k : Nat) (C : List Value → AH → Prop) (Q : Value → Option Obj → Prop) : (tfn Tryz.prog (SF false) [] (Lrc C (rxN xs d ps)) 3000 [] Tryz.f4 [.pointer (some ⟨0, 0, none⟩)] (h1 (strm xs 0)) (fun v h => Q v (h.get 0))) = bif decide (nextR xs 0 5 = 0) == false && allInts xs then C [Value.pointer (some { block := 0, off := 0 }), Value.pointer (some { block := 1, off := 0 }), Value.pointer (some { block := 2, off := 0 }), Value.slice (some { block := 3, off := 0 }) 4 4, Value.int IntKind.i64 4, Value.int IntKind.i64 0] { next := 4, low := 4, blocks := [(0, Obj.cells { toList := [Value.func (Fn.yield 0) xs { toList := [] }, Value.int IntKind.i64 (scE xs 0)] } 25 (0, 0)), (1, Obj.cells { toList := [Value.slice none 0 0, Value.slice none 0 0] } 29 (0, 0)), (2, Obj.cells { toList := [Value.func (Fn.yield 0) { toList := [Value.agg { toList := [Value.string { data := #[109, 97, 112, 115] }, Value.func (Fn.yield 0) { toList := scL xs 0 } { toList := [] }] }, Value.agg { toList := [Value.string { data := #[115, 104, 111, 112] }, Value.func (Fn.yield 0) { toList := [Value.string { data := #[111, 114, 100, 101, 114, 115] }] } { toList := [] }] }] } { toList := [] }, Value.slice none 0 0] } 29 (0, 0)), (3, Obj.cells { toList := keyC } 9 (0, 0))] } ∧ Q (Value.agg { toList := [Value.func (Fn.yield 0) { toList := ps } { toList := [] }, Value.func (Fn.yield 0) { toList := [] } { toList := [] }] }) (some (Obj.cells { toList := [Value.func (Fn.yield 0) xs { toList := [] }, Value.int IntKind.i64 d] } 25 (0, 0))) else False := by kernel_rfl
theorem rcSB (xs : Array Value) (d : Int) (ps cs : List Value) (k : Nat) (C : List Value → AH → Prop) (Q : Value → Option Obj → Prop) : (tfn Tryz.prog (SF false) [] (Lrc C (rxB xs d ps cs k)) 3000 [] Tryz.f4 [.pointer (some ⟨0, 0, none⟩)] (h1 (strm xs 0)) (fun v h => Q v (h.get 0))) = bif decide (nextR xs 0 5 = 0) == false && allInts xs then C [Value.pointer (some { block := 0, off := 0 }), Value.pointer (some { block := 1, off := 0 }), Value.pointer (some { block := 2, off := 0 }), Value.slice (some { block := 3, off := 0 }) 4 4, Value.int IntKind.i64 4, Value.int IntKind.i64 0] { next := 4, low := 4, blocks := [(0, Obj.cells { toList := [Value.func (Fn.yield 0) xs { toList := [] }, Value.int IntKind.i64 (scE xs 0)] } 25 (0, 0)), (1, Obj.cells { toList := [Value.slice none 0 0, Value.slice none 0 0] } 29 (0, 0)), (2, Obj.cells { toList := [Value.func (Fn.yield 0) { toList := [Value.agg { toList := [Value.string { data := #[109, 97, 112, 115] }, Value.func (Fn.yield 0) { toList := scL xs 0 } { toList := [] }] }, Value.agg { toList := [Value.string { data := #[115, 104, 111, 112] }, Value.func (Fn.yield 0) { toList := [Value.string { data := #[111, 114, 100, 101, 114, 115] }] } { toList := [] }] }] } { toList := [] }, Value.slice none 0 0] } 29 (0, 0)), (3, Obj.cells { toList := keyC } 9 (0, 0))] } ∧ bif (Array.mk cs).toList.all p1 && k.ble k && (k * 8).ble (Array.mk cs).size && true then Q (Value.agg { toList := [Value.func (Fn.yield 0) { toList := ps } { toList := [] }, Value.func (Fn.yield 0) { toList := chunk true 8 k (Array.mk cs).toList } { toList := [] }] }) (some (Obj.cells { toList := [Value.func (Fn.yield 0) xs { toList := [] }, Value.int IntKind.i64 d] } 25 (0, 0))) else False else False := by kernel_rfl

def rcH (xs : Array Value) (d : Int) (ps : List Value) : List Pl → AH
  | [] => rcN xs d ps
  | p :: l => rcB xs d ps ((p :: l).flatMap plC) (p :: l).length
def rxH (xs : Array Value) (d : Int) (ps : List Value) : List Pl → AH
  | [] => rxN xs d ps
  | p :: l => rxB xs d ps ((p :: l).flatMap plC) (p :: l).length
noncomputable def nuD (xs : Array Value) (d : Int) : Nat := (gI nuL (nextR xs (d + 1 + 1 + 1 + 1 + 1 + 1 + 1) 4)).toNat
/-- The plans that are drawn, and where the stream stands then. -/
noncomputable def catR (xs : Array Value) : Nat → Nat → Int → List Pl × Int
  | 0, _, d => ([], d)
  | r + 1, i, d => if nextR xs d 5 = 0 then catR xs r (i + 1) (d + 1) else
    (plN xs d (gS keyC i) (nuD xs d) :: (catR xs r (i + 1) (plE (nuD xs d) d)).1, (catR xs r (i + 1) (plE (nuD xs d) d)).2)
theorem flat_len : ∀ L : List Pl, (L.flatMap plC).length = L.length * 8
  | [] => rfl
  | p :: l => by
    have := flat_len l
    simp only [List.flatMap_cons, List.length_append, List.length_cons, this]
    simp only [plC, List.length_cons, List.length_nil]
    omega
theorem nnL (L : List Pl) (t : TypeId) (fr : Nat × Nat) : NoNames (.cells ⟨L.flatMap plC⟩ t fr) := by
  intro v hv
  obtain ⟨p, _, h⟩ := List.mem_flatMap.1 (show v ∈ L.flatMap plC from hv)
  exact p1_plC p v h
theorem flat_app (L : List Pl) (p : Pl) : (L ++ [p]).flatMap plC = L.flatMap plC ++ plC p := by simp
theorem rc_loop {zs : List Int} {ps : List Value} (K : AExit → List Value → AH → Prop) : ∀ (r i : Nat) (d : Int) (L : List Pl), i + r = 4 → L.length ≤ i → 0 ≤ d → d ≤ 1000 + 20 * i →
      K (.exit 0) rcX (rxH (intsV zs) (catR (intsV zs) r i d).2 ps (L ++ (catR (intsV zs) r i d).1)) →
      iterE 1 Tryz.prog 71 [0, 2, 3, 15, 16, 17] [4] [0, 2, 3] [3] (oneLoop (codeOf Tryz.f4) 3) (r + 1) (rcV i) (rcH (intsV zs) d ps L) K := by
  intro r
  induction r with
  | zero =>
    intro i d L h1 h2 h3 h4 hK
    have hi : i = 4 := by omega
    subst hi
    simp only [catR, List.append_nil] at hK
    cases L with
    | nil => exact ⟨SR, [], LinN, 3000, SR_ok, LinN_ok, (rdN _ _ _ _ _ K).mpr (pick_f (by decide) hK)⟩
    | cons p l => exact ⟨SR, [], LinB, 3000, SR_ok, LinB_ok, (rdB _ _ _ _ _ _ _ K).mpr (pick_f (by decide) ⟨nnL (p :: l) _ _, hK⟩)⟩
  | succ r ih =>
    intro i d L h1 h2 h3 h4 hK
    have hi : i < 4 := by omega
    have skip : nextR (intsV zs) d 5 = 0 → iterE 1 Tryz.prog 71 [0, 2, 3, 15, 16, 17] [4] [0, 2, 3] [3] (oneLoop (codeOf Tryz.f4) 3) (r + 1) (rcV ((i + 1 : Nat) : Int)) (rcH (intsV zs) (d + 1) ps L) K := by
      intro hz
      rw [catR, if_pos hz] at hK
      exact ih (i + 1) (d + 1) L (by omega) (by omega) (by omega) (by omega) hK
    have take : ∀ n : Nat, n ≤ 3 → nextR (intsV zs) d 5 ≠ 0 → gI nuL (nextR (intsV zs) (d + 1 + 1 + 1 + 1 + 1 + 1 + 1) 4) = (n : Int) →
        iterE 1 Tryz.prog 71 [0, 2, 3, 15, 16, 17] [4] [0, 2, 3] [3] (oneLoop (codeOf Tryz.f4) 3) (r + 1) (rcV ((i + 1 : Nat) : Int)) (rcH (intsV zs) (plE n d) ps (L ++ [plN (intsV zs) d (gS keyC i) n])) K := by
      intro n hn hz hg
      have hnu : nuD (intsV zs) d = n := by unfold nuD; rw [hg]; rfl
      rw [catR, if_neg hz, hnu] at hK
      have he : plE n d = d + 8 + 2 * n := by unfold plE; rw [twice_eq]; omega
      refine ih (i + 1) (plE n d) _ (by omega) (by simp; omega) (by omega) (by omega) ?_
      rw [List.append_assoc]
      exact hK
    cases L with
    | nil => exact ⟨SR, [], LinN, 3000, SR_ok, LinN_ok, rdN_ok hi h3 (by omega) ps _ K skip take⟩
    | cons p l =>
      refine ⟨SR, [], LinB, 3000, SR_ok, LinB_ok, rdB_ok hi h3 (by omega) ps ((p :: l).flatMap plC) (p :: l).length (flat_len _) (by omega) (nnL (p :: l) _ _) _ K skip ?_⟩
      intro n hn hz hg
      have := take n hn hz hg
      have e : rcH (intsV zs) (plE n d) ps (p :: l ++ [plN (intsV zs) d (gS keyC i) n]) = rcB (intsV zs) (plE n d) ps ((p :: l).flatMap plC ++ plC (plN (intsV zs) d (gS keyC i) n)) ((p :: l).length + 1) := by
        show rcB _ _ _ ((p :: l ++ [plN (intsV zs) d (gS keyC i) n]).flatMap plC) (p :: l ++ [plN (intsV zs) d (gS keyC i) n]).length = _
        rw [flat_app, List.length_append]
        rfl
      rw [e] at this
      exact this
theorem rc_ex {zs : List Int} {ps : List Value} (K : AExit → List Value → AH → Prop) {d : Int} (h0 : 0 ≤ d) (h1 : d ≤ 1000) (hK : K (.exit 0) rcX (rxH (intsV zs) (catR (intsV zs) 4 0 d).2 ps (catR (intsV zs) 4 0 d).1)) :
    ∃ n, iterE 1 Tryz.prog 71 [0, 2, 3, 15, 16, 17] [4] [0, 2, 3] [3] (oneLoop (codeOf Tryz.f4) 3) n (rcV 0) (rcN (intsV zs) d ps) K :=
  ⟨_, rc_loop K 4 0 d [] rfl (Nat.le_refl _) h0 (by omega) hK⟩
theorem one3 : (loopAt (codeOf Tryz.f4) 3).length = 1 := by kernel_rfl
theorem someRC : Tryz.f4.body.isSome = true := by kernel_rfl
theorem ridsR : ((loopsOf (codeOf Tryz.f4)).all fun b => match rid b with | some j => Nat.blt j 1000000 | none => true) = true := by kernel_rfl
theorem Lrc_ok {zs : List Int} {ps : List Value} {d : Int} (h0 : 0 ≤ d) (h1 : d ≤ 1000) {H : AH} (hH : H = rxH (intsV zs) (catR (intsV zs) 4 0 d).2 ps (catR (intsV zs) 4 0 d).1) :
    LoopsOK 1 Tryz.prog 71 (Lrc (fun vals h => vals = rcV 0 ∧ h = rcN (intsV zs) d ps) H) (codeOf Tryz.f4) := by
  refine loops_or (ghosts_one ridsR (thenG_ok (freezeH_ok _ _ _ _ _ _ _) (freezeH_ok _ _ _ _ _ _ _))) (loops_one one3 (thenLS_ok (hookE_ok (sameX := [3]) mixed (by decide) ?_) (freezeH_ok _ _ _ _ _ _ _)))
  rintro vals h K ⟨⟨rfl, rfl⟩, hK⟩
  subst hH
  exact rc_ex K h0 h1 hK
def ordV : Value := .agg ⟨[.string ⟨#[115, 104, 111, 112]⟩, fz ⟨[.string ⟨#[111, 114, 100, 101, 114, 115]⟩]⟩]⟩
def psV (v : Value) : List Value := [.agg ⟨[.string ⟨#[109, 97, 112, 115]⟩, v]⟩, ordV]
theorem psV_prod (v : Value) : fz ⟨psV v⟩ = prodV v := rfl
theorem chunk_pl : ∀ L : List Pl, chunk true 8 L.length (L.flatMap plC) = L.map plV
  | [] => rfl
  | p :: l => by
    have := chunk_pl l
    simp only [List.length_cons, List.flatMap_cons, List.map_cons, chunk]
    rw [show (plC p ++ l.flatMap plC).drop 8 = l.flatMap plC from rfl, this]
    rfl
noncomputable def catL (xs : Array Value) : List Pl := (catR xs 4 0 (scE xs 0)).1
noncomputable def catE (xs : Array Value) : Int := (catR xs 4 0 (scE xs 0)).2
theorem all_p1 (L : List Pl) : (L.flatMap plC).all p1 = true := by
  rw [List.all_eq_true]
  intro v hv
  obtain ⟨p, _, h⟩ := List.mem_flatMap.1 hv
  exact p1_plC p v h
theorem fin8 {L : List Pl} : ((Array.mk (L.flatMap plC)).toList.all p1 && L.length.ble L.length && (L.length * 8).ble (Array.mk (L.flatMap plC)).size && true) = true := by
  have h1 : (Array.mk (L.flatMap plC)).toList.all p1 = true := all_p1 L
  have h2 : (Array.mk (L.flatMap plC)).size = L.length * 8 := flat_len L
  rw [h1, h2, Nat.ble_eq_true_of_le (Nat.le_refl _), Nat.ble_eq_true_of_le (Nat.le_refl _)]; rfl
theorem rc_fn (zs : List Int) : FnOK 1 Tryz.prog 4 ⟨[.pointer (some ⟨0, 0, none⟩)]⟩ (Ev.h1 (strm (intsV zs) 0)) (fun u g => u = .agg ⟨[prodV (rsW (intsV zs) 0), fz ⟨(catL (intsV zs)).map plV⟩]⟩ ∧ g.get 0 = some (strm (intsV zs) (catE (intsV zs)))) := by
  have hb := (nextR_spec zs 5 0 (by omega) (by omega) (by omega) (by omega)).1
  have e0 : 0 ≤ scE (intsV zs) 0 := by unfold scE; omega
  have e1 : scE (intsV zs) 0 ≤ 1000 := by unfold scE; omega
  have hi := allInts_intsV zs
  by_cases hz : nextR (intsV zs) 0 5 = 0
  · have ew : rsW (intsV zs) 0 = .slice none 0 0 := by rw [rsW, if_pos hz]
    have hc : (decide (nextR (intsV zs) 0 5 = 0) == true && allInts (intsV zs)) = true := by rw [decide_eq_true hz, hi]; rfl
    rw [ew]
    cases hL : (catR (intsV zs) 4 0 (scE (intsV zs) 0)).1 with
    | nil =>
      refine FnOK.ttree (SF_ok true) mixed Tryz.func4 someRC (Lrc_ok (ps := psV (.slice none 0 0)) e0 e1 (H := rxN (intsV zs) (catE (intsV zs)) (psV (.slice none 0 0))) (by rw [hL]; rfl)) (rcNN (intsV zs) (catE (intsV zs)) (psV (.slice none 0 0)) [] 0 (fun vals h => vals = rcV 0 ∧ h = rcN (intsV zs) (scE (intsV zs) 0) (psV (.slice none 0 0))) (fun v o => v = .agg ⟨[prodV (.slice none 0 0), fz ⟨(catL (intsV zs)).map plV⟩]⟩ ∧ o = some (strm (intsV zs) (catE (intsV zs))))) (need_mk hc ⟨⟨rfl, rfl⟩, ?_, rfl⟩)
      unfold catL
      rw [hL]
      rfl
    | cons p l =>
      refine FnOK.ttree (SF_ok true) mixed Tryz.func4 someRC (Lrc_ok (ps := psV (.slice none 0 0)) e0 e1 (H := rxB (intsV zs) (catE (intsV zs)) (psV (.slice none 0 0)) ((p :: l).flatMap plC) (p :: l).length) (by rw [hL]; rfl)) (rcNB (intsV zs) (catE (intsV zs)) (psV (.slice none 0 0)) ((p :: l).flatMap plC) (p :: l).length (fun vals h => vals = rcV 0 ∧ h = rcN (intsV zs) (scE (intsV zs) 0) (psV (.slice none 0 0))) (fun v o => v = .agg ⟨[prodV (.slice none 0 0), fz ⟨(catL (intsV zs)).map plV⟩]⟩ ∧ o = some (strm (intsV zs) (catE (intsV zs))))) (need_mk hc ⟨⟨rfl, rfl⟩, need_mk fin8 ⟨?_, rfl⟩⟩)
      unfold catL
      rw [hL, ← chunk_pl]
      rfl
  · have ew : rsW (intsV zs) 0 = fz ⟨scL (intsV zs) 0⟩ := by rw [rsW, if_neg hz]
    have hc : (decide (nextR (intsV zs) 0 5 = 0) == false && allInts (intsV zs)) = true := by rw [decide_eq_false hz, hi]; rfl
    rw [ew]
    cases hL : (catR (intsV zs) 4 0 (scE (intsV zs) 0)).1 with
    | nil =>
      refine FnOK.ttree (SF_ok false) mixed Tryz.func4 someRC (Lrc_ok (ps := psV (fz ⟨scL (intsV zs) 0⟩)) e0 e1 (H := rxN (intsV zs) (catE (intsV zs)) (psV (fz ⟨scL (intsV zs) 0⟩))) (by rw [hL]; rfl)) (rcSN (intsV zs) (catE (intsV zs)) (psV (fz ⟨scL (intsV zs) 0⟩)) [] 0 (fun vals h => vals = rcV 0 ∧ h = rcN (intsV zs) (scE (intsV zs) 0) (psV (fz ⟨scL (intsV zs) 0⟩))) (fun v o => v = .agg ⟨[prodV (fz ⟨scL (intsV zs) 0⟩), fz ⟨(catL (intsV zs)).map plV⟩]⟩ ∧ o = some (strm (intsV zs) (catE (intsV zs))))) (need_mk hc ⟨⟨rfl, rfl⟩, ?_, rfl⟩)
      unfold catL
      rw [hL]
      rfl
    | cons p l =>
      refine FnOK.ttree (SF_ok false) mixed Tryz.func4 someRC (Lrc_ok (ps := psV (fz ⟨scL (intsV zs) 0⟩)) e0 e1 (H := rxB (intsV zs) (catE (intsV zs)) (psV (fz ⟨scL (intsV zs) 0⟩)) ((p :: l).flatMap plC) (p :: l).length) (by rw [hL]; rfl)) (rcSB (intsV zs) (catE (intsV zs)) (psV (fz ⟨scL (intsV zs) 0⟩)) ((p :: l).flatMap plC) (p :: l).length (fun vals h => vals = rcV 0 ∧ h = rcN (intsV zs) (scE (intsV zs) 0) (psV (fz ⟨scL (intsV zs) 0⟩))) (fun v o => v = .agg ⟨[prodV (fz ⟨scL (intsV zs) 0⟩), fz ⟨(catL (intsV zs)).map plV⟩]⟩ ∧ o = some (strm (intsV zs) (catE (intsV zs))))) (need_mk hc ⟨⟨rfl, rfl⟩, need_mk fin8 ⟨?_, rfl⟩⟩)
      unfold catL
      rw [hL, ← chunk_pl]
      rfl
noncomputable def spRC (f : FuncId) (args : Array Value) (h : AH) : Option (Bool × Value × AH) :=
  cond (Nat.beq f 4) (match args with
    | ⟨[.pointer (some ⟨b, 0, none⟩)]⟩ => match h.get b with
      | some (.cells ⟨[.func (.yield 0) xs ⟨[]⟩, .int .i64 at_]⟩ t (0, 0)) =>
        some (Nat.beq t 25 && decide (at_ = 0) && allInts xs, .agg ⟨[prodV (rsW xs 0), fz ⟨(catL xs).map plV⟩]⟩, h.set b (.cells ⟨[fz xs, .int .i64 (catE xs)]⟩ 25 (0, 0)))
      | _ => none
    | _ => none) none
theorem spRC_ok : SpOK spRC := by
  intro f args h v h' hs
  unfold spRC at hs
  obtain ⟨hf, hs2⟩ := cond_some hs
  clear hs
  have := Nat.eq_of_beq_eq_true hf
  subst this
  split at hs2
  · split at hs2
    · rename_i xs at_ t hg
      injection hs2 with hs
      injection hs with hb hs
      injection hs with hv hh
      subst hv hh
      simp only [Bool.and_eq_true, decide_eq_true_eq] at hb
      obtain ⟨⟨b0, b1⟩, b3⟩ := hb
      have b0 := Nat.eq_of_beq_eq_true b0
      subst b0 b1
      obtain ⟨zs, rfl⟩ := intsV_of_all b3
      refine ⟨?_, Nat.le_refl _⟩
      exact FnOK.ref (cs := ⟨[fz (intsV zs), .int .i64 0]⟩) (cs' := ⟨[fz (intsV zs), .int .i64 (catE (intsV zs))]⟩) (args := []) (rc_fn zs) rfl (by simp [p1, fz]) (by simp [p1, fz]) rfl hg
    · cases hs2
  · cases hs2
end Go.Proofs.YtfepnpffbhjakaaGreatDoor
