/-
  'HealthIsByItself' returns true for every list of integers, and leaves what was there as it was.
-/
import Derived.Test.YtbeodpcdjlphkaaGreatDoorHbF
import Derived.Below
namespace Go.Proofs.YtbeodpcdjlphkaaGreatDoor
open Go.Ev Go.RowKit HealthLaw

/-- What a slice of integers that came in reads as. -/
def IsRow (k : IntKind) (w : World) (a : Option Addr) (len cap : Nat) (zs : List Int) : Prop :=
  (a = none ∧ len = 0 ∧ cap = 0 ∧ zs = []) ∨
  ∃ x, a = some x ∧ len ≤ cap ∧ cap ≤ maxLen ∧ zs.length = cap ∧ (∀ i, i < zs.length → w.cell? (x.add i) = some (.int k (zs.getD i 0))) ∧ ∀ n ∈ zs, (Lit.int k n).wf = true

theorem IsRow.law {f : FuncId} (hF : ∀ zs : List Int, FnOK 0 Tryz.prog f ⟨[fz (intsV zs)]⟩ h0 (fun v _ => v = .bool true)) (a : Option Addr) (len cap : Nat) (zs : List Int) (w : World) (h : IsRow .i64 w a len cap zs) :
    Calls Tryz.prog f #[.slice a len cap] w fun e w' => e = .returned (.bool true) ∧ Below w.heap.size w w' := by
  refine FnOK.law (zs := zs) (hF _) ?_
  rcases h with h | ⟨x, h1, h2, _, h3, h4, _⟩
  · exact .inl h
  · exact .inr ⟨x, h1, h2, h3, h4⟩

noncomputable def lfT (F : LwF) (xs : Array Value) (rise fall : Int) (e1 e2 : Bool) (ps2 : List Value) (X : Prop) : Prop :=
  bif allInts xs then dr xs (F.en xs) (dr xs (F.en xs + 1) (
    bif okI (F.vs xs) && true && decide (0 ≤ F.en xs + 1 + 1) && decide (F.en xs + 1 + 1 ≤ 100) && (isE (F.ps xs (F.vs xs) (F.en xs + 1 + 1)) == e1) && allInts xs then
    bif okI (F.vs xs) && okT ps2 && decide (1 ≤ rise) && decide (rise ≤ 3) && decide (1 ≤ fall) && decide (fall ≤ 3) && (isE (F.tr (F.vs xs) rise fall ps2) == e2) then
    bif okI (F.vs xs) && okT ps2 then X else False else False else False)) else False
theorem lfN (F : LwF) (xs : Array Value) (C : List Value → AH → Prop) (Q : Value → Prop) :
    tfn Tryz.prog (SLf F true true) [] (hook1 10 (hookLS 0 98 [4, 5, 6, 7, 53, 54, 55] [] [2] (fun vals h K => C vals h ∧ K (.exit 0) [anyV] h0))) 600 [] Tryz.f3 [fz xs] h0 (fun v _ => Q v) =
      lfT F xs (IntKind.i64.wrap (1 + nextR xs (F.en xs) 3)) (IntKind.i64.wrap (1 + nextR xs (F.en xs + 1) 3)) true true [] (bif F.ck (F.vs xs) [] != 0 then bif F.ck (F.vs xs) [] != 0 then Q (.bool true) else Q (.bool false) else bif F.ck (F.vs xs) [] != 0 then Q (.bool false) else
          C (outV (F.vs xs) nilV nilV ((Array.mk (F.vs xs)).size : Int) 0) (hH (IntKind.i64.wrap (1 + nextR xs (F.en xs) 3)) (IntKind.i64.wrap (1 + nextR xs (F.en xs + 1) 3))) ∧ Q (.bool true)) := by kernel_rfl
theorem lfM (F : LwF) (xs : Array Value) (C : List Value → AH → Prop) (Q : Value → Prop) :
    tfn Tryz.prog (SLf F false true) [] (hook1 10 (hookLS 0 98 [4, 5, 6, 7, 53, 54, 55] [] [2] (fun vals h K => C vals h ∧ K (.exit 0) [anyV] h0))) 600 [] Tryz.f3 [fz xs] h0 (fun v _ => Q v) =
      lfT F xs (IntKind.i64.wrap (1 + nextR xs (F.en xs) 3)) (IntKind.i64.wrap (1 + nextR xs (F.en xs + 1) 3)) false true (F.ps xs (F.vs xs) (F.en xs + 1 + 1)) (bif F.ck (F.vs xs) (F.ps xs (F.vs xs) (F.en xs + 1 + 1)) != 0 then bif F.ck (F.vs xs) (F.ps xs (F.vs xs) (F.en xs + 1 + 1)) != 0 then Q (.bool true) else Q (.bool false) else bif F.ck (F.vs xs) (F.ps xs (F.vs xs) (F.en xs + 1 + 1)) != 0 then Q (.bool false) else
          C (outV (F.vs xs) (fz ⟨(F.ps xs (F.vs xs) (F.en xs + 1 + 1))⟩) nilV ((Array.mk (F.vs xs)).size : Int) 0) (hH (IntKind.i64.wrap (1 + nextR xs (F.en xs) 3)) (IntKind.i64.wrap (1 + nextR xs (F.en xs + 1) 3))) ∧ Q (.bool true)) := by kernel_rfl
theorem lfS (F : LwF) (xs : Array Value) (C : List Value → AH → Prop) (Q : Value → Prop) :
    tfn Tryz.prog (SLf F false false) [] (hook1 10 (hookLS 0 98 [4, 5, 6, 7, 53, 54, 55] [] [2] (fun vals h K => C vals h ∧ K (.exit 0) [anyV] h0))) 600 [] Tryz.f3 [fz xs] h0 (fun v _ => Q v) =
      lfT F xs (IntKind.i64.wrap (1 + nextR xs (F.en xs) 3)) (IntKind.i64.wrap (1 + nextR xs (F.en xs + 1) 3)) false false (F.ps xs (F.vs xs) (F.en xs + 1 + 1)) (bif F.ck (F.vs xs) (F.ps xs (F.vs xs) (F.en xs + 1 + 1)) != 0 then bif F.ck (F.vs xs) (F.ps xs (F.vs xs) (F.en xs + 1 + 1)) != 0 then bif ((Array.mk (F.tr (F.vs xs) (IntKind.i64.wrap (1 + nextR xs (F.en xs) 3)) (IntKind.i64.wrap (1 + nextR xs (F.en xs + 1) 3)) (F.ps xs (F.vs xs) (F.en xs + 1 + 1)))).size : Int) == 0 then Q (.bool true) else Q (.bool false) else Q (.bool false) else bif F.ck (F.vs xs) (F.ps xs (F.vs xs) (F.en xs + 1 + 1)) != 0 then Q (.bool false) else
          C (outV (F.vs xs) (fz ⟨(F.ps xs (F.vs xs) (F.en xs + 1 + 1))⟩) (fz ⟨F.tr (F.vs xs) (IntKind.i64.wrap (1 + nextR xs (F.en xs) 3)) (IntKind.i64.wrap (1 + nextR xs (F.en xs + 1) 3)) (F.ps xs (F.vs xs) (F.en xs + 1 + 1))⟩) ((Array.mk (F.vs xs)).size : Int) 0) (hH (IntKind.i64.wrap (1 + nextR xs (F.en xs) 3)) (IntKind.i64.wrap (1 + nextR xs (F.en xs + 1) 3))) ∧ Q (.bool true)) := by kernel_rfl
theorem hkN {I : List (ByteArray × Int)} {vs : List Value} (hI : vs = I.map instV) (hv : okI vs = true) {L : List T3} (hL : Tok L) (hc : chkOk (fun k => plF (vs.map keyV) k) none L) {rise fall : Int} (b1 : 1 ≤ rise) (b2 : rise ≤ 3) (b3 : 1 ≤ fall) (b4 : fall ≤ 3) (hp : L = []) :
    LSpec 0 Tryz.prog 98 (oneLoop (codeOf Tryz.f3) 10) (hookLS 0 98 [4, 5, 6, 7, 53, 54, 55] [] [2] (fun vals h K => (vals = outV vs nilV nilV (I.length : Int) 0 ∧ h = hH rise fall) ∧ K (.exit 0) [anyV] h0)) := by
  refine hookE_ok (sameX := []) mixed (by decide) ?_
  rintro vals h K ⟨⟨rfl, rfl⟩, hK⟩
  exact ⟨_, outN hI hv hL hc b1 b2 b3 b4 hp K hK I.length 0 (by omega)⟩
theorem hkM {I : List (ByteArray × Int)} {vs : List Value} (hI : vs = I.map instV) (hv : okI vs = true) {L : List T3} (hL : Tok L) (hc : chkOk (fun k => plF (vs.map keyV) k) none L) {rise fall : Int} (b1 : 1 ≤ rise) (b2 : rise ≤ 3) (b3 : 1 ≤ fall) (b4 : fall ≤ 3) (hp : L ≠ []) (ha : tsL vs rise fall L = []) :
    LSpec 0 Tryz.prog 98 (oneLoop (codeOf Tryz.f3) 10) (hookLS 0 98 [4, 5, 6, 7, 53, 54, 55] [] [2] (fun vals h K => (vals = outV vs (fz ⟨L.map tV⟩) nilV (I.length : Int) 0 ∧ h = hH rise fall) ∧ K (.exit 0) [anyV] h0)) := by
  refine hookE_ok (sameX := []) mixed (by decide) ?_
  rintro vals h K ⟨⟨rfl, rfl⟩, hK⟩
  exact ⟨_, outM hI hv hL hc b1 b2 b3 b4 hp ha K hK I.length 0 (by omega)⟩
theorem hkS {I : List (ByteArray × Int)} {vs : List Value} (hI : vs = I.map instV) (hv : okI vs = true) {L : List T3} (hL : Tok L) (hc : chkOk (fun k => plF (vs.map keyV) k) none L) {rise fall : Int} (b1 : 1 ≤ rise) (b2 : rise ≤ 3) (b3 : 1 ≤ fall) (b4 : fall ≤ 3) (hp : L ≠ []) (ha : tsL vs rise fall L ≠ []) :
    LSpec 0 Tryz.prog 98 (oneLoop (codeOf Tryz.f3) 10) (hookLS 0 98 [4, 5, 6, 7, 53, 54, 55] [] [2] (fun vals h K => (vals = outV vs (fz ⟨L.map tV⟩) (fz ⟨(tsL vs rise fall L).map tV⟩) (I.length : Int) 0 ∧ h = hH rise fall) ∧ K (.exit 0) [anyV] h0)) := by
  refine hookE_ok (sameX := []) mixed (by decide) ?_
  rintro vals h K ⟨⟨rfl, rfl⟩, hK⟩
  exact ⟨_, outS hI hv hL hc b1 b2 b3 b4 hp ha K hK I.length 0 (by omega)⟩
theorem one10 : (loopAt (codeOf Tryz.f3) 10).length = 1 := by kernel_rfl
theorem someLW : Tryz.f3.body.isSome = true := by kernel_rfl
theorem dead : LSpec 0 Tryz.prog 98 (oneLoop (codeOf Tryz.f3) 10) (hookLS 0 98 [4, 5, 6, 7, 53, 54, 55] [] [2] (fun _ _ K => False ∧ K (.exit 0) [anyV] h0)) :=
  hookE_ok (sameX := []) mixed (by decide) fun _ _ _ q => q.1.elim

namespace healthIsByItself
theorem all (zs : List Int) : FnOK 0 Tryz.prog 3 ⟨[fz (intsV zs)]⟩ h0 (fun v _ => v = .bool true) := by
  obtain ⟨hI, e0, e1⟩ := riR_ok zs
  have hv : okI ((riR (intsV zs)).1.map instV) = true := okI_iff.2 ⟨_, hI, rfl⟩
  obtain ⟨hL, p0, p1, _⟩ := pbC_ok zs hv (d := (riR (intsV zs)).2 + 1 + 1) (by omega) (by omega)
  have hp : okT ((pbC (intsV zs) ((riR (intsV zs)).1.map instV) ((riR (intsV zs)).2 + 1 + 1)).1.map tV) = true := okT_iff.2 ⟨_, hL, rfl⟩
  have hb1 := (nextR_spec zs 3 (riR (intsV zs)).2 e0 (by omega) (by omega) (by omega)).1
  have hb2 := (nextR_spec zs 3 ((riR (intsV zs)).2 + 1) (by omega) (by omega) (by omega) (by omega)).1
  have w1 : IntKind.i64.wrap (1 + nextR (intsV zs) (riR (intsV zs)).2 3) = 1 + nextR (intsV zs) (riR (intsV zs)).2 3 := wrap_id _ (by omega) (by omega)
  have w2 : IntKind.i64.wrap (1 + nextR (intsV zs) ((riR (intsV zs)).2 + 1) 3) = 1 + nextR (intsV zs) ((riR (intsV zs)).2 + 1) 3 := wrap_id _ (by omega) (by omega)
  obtain ⟨rise, hrise⟩ : ∃ r, IntKind.i64.wrap (1 + nextR (intsV zs) (LW0.en (intsV zs)) 3) = r := ⟨_, rfl⟩
  obtain ⟨fall, hfall⟩ : ∃ r, IntKind.i64.wrap (1 + nextR (intsV zs) (LW0.en (intsV zs) + 1) 3) = r := ⟨_, rfl⟩
  have hr1 := hrise.symm.trans w1
  have hf1 := hfall.symm.trans w2
  have r1 : 1 ≤ rise := by omega
  have r2 : rise ≤ 3 := by omega
  have f1 : 1 ≤ fall := by omega
  have f2 : fall ≤ 3 := by omega
  have f1' : ∀ (e1 e2 : Bool) (ps2 : List Value), ps2 = (pbC (intsV zs) ((riR (intsV zs)).1.map instV) ((riR (intsV zs)).2 + 1 + 1)).1.map tV → isE ((pbC (intsV zs) ((riR (intsV zs)).1.map instV) ((riR (intsV zs)).2 + 1 + 1)).1.map tV) = e1 → isE (trV ((riR (intsV zs)).1.map instV) rise fall ((pbC (intsV zs) ((riR (intsV zs)).1.map instV) ((riR (intsV zs)).2 + 1 + 1)).1.map tV)) = e2 →
      ∀ X : Prop, X → lfT LW0 (intsV zs) rise fall e1 e2 ps2 X := by
    intro e1' e2' ps2 hps g1 g2 X hX
    subst hps
    refine need_mk (allInts_intsV zs) (dr_mk e0 (by show (riR (intsV zs)).2 ≤ 1000000; omega) (dr_mk (by show 0 ≤ (riR (intsV zs)).2 + 1; omega) (by show (riR (intsV zs)).2 + 1 ≤ 1000000; omega) (need_mk ?_ (need_mk ?_ (need_mk ?_ hX)))))
    · show (okI ((riR (intsV zs)).1.map instV) && true && decide (0 ≤ (riR (intsV zs)).2 + 1 + 1) && decide ((riR (intsV zs)).2 + 1 + 1 ≤ 100) && (isE ((pbC (intsV zs) ((riR (intsV zs)).1.map instV) ((riR (intsV zs)).2 + 1 + 1)).1.map tV) == e1') && allInts (intsV zs)) = true
      rw [hv, g1, allInts_intsV]; simp; omega
    · show (okI ((riR (intsV zs)).1.map instV) && okT ((pbC (intsV zs) ((riR (intsV zs)).1.map instV) ((riR (intsV zs)).2 + 1 + 1)).1.map tV) && decide (1 ≤ rise) && decide (rise ≤ 3) && decide (1 ≤ fall) && decide (fall ≤ 3) && (isE (trV ((riR (intsV zs)).1.map instV) rise fall ((pbC (intsV zs) ((riR (intsV zs)).1.map instV) ((riR (intsV zs)).2 + 1 + 1)).1.map tV)) == e2')) = true
      rw [hv, hp, g2]; simp; omega
    · show (okI ((riR (intsV zs)).1.map instV) && okT ((pbC (intsV zs) ((riR (intsV zs)).1.map instV) ((riR (intsV zs)).2 + 1 + 1)).1.map tV)) = true
      rw [hv, hp]; rfl
  generalize hvs : (riR (intsV zs)).1.map instV = vs at hv hL hp f1' p0 p1
  generalize hLL : (pbC (intsV zs) vs ((riR (intsV zs)).2 + 1 + 1)).1 = L at hL hp f1'
  have eV : LW0.vs (intsV zs) = vs := hvs
  have eP : LW0.ps (intsV zs) (LW0.vs (intsV zs)) (LW0.en (intsV zs) + 1 + 1) = L.map tV := by rw [eV, ← hLL]; rfl
  have eP' := eP
  have eT : LW0.tr (LW0.vs (intsV zs)) rise fall (LW0.ps (intsV zs) (LW0.vs (intsV zs)) (LW0.en (intsV zs) + 1 + 1)) = trV vs rise fall (L.map tV) := by rw [eV, ← eV, eP, eV]; rfl
  have eC : LW0.ck (LW0.vs (intsV zs)) (LW0.ps (intsV zs) (LW0.vs (intsV zs)) (LW0.en (intsV zs) + 1 + 1)) = ckV vs (L.map tV) := by rw [eP, eV]; rfl
  have eN : LW0.ck (LW0.vs (intsV zs)) [] = ckV vs [] := by rw [eV]; rfl
  have hIl : vs.length = (riR (intsV zs)).1.length := by rw [← hvs, List.length_map]
  by_cases hck : ckV vs (L.map tV) = 0
  · have hc : chkOk (fun k => plF (vs.map keyV) k) none L := by
      have := hck
      unfold ckV at this
      rw [unT_map] at this
      exact chk_ok this
    have htr : trV vs rise fall (L.map tV) = (tsL vs rise fall L).map tV := tr_eq vs rise fall hck
    have fin0 : ∀ X : Prop, X → bif LW0.ck (LW0.vs (intsV zs)) (LW0.ps (intsV zs) (LW0.vs (intsV zs)) (LW0.en (intsV zs) + 1 + 1)) != 0 then (Value.bool false = .bool true) else X := fun X hX => pick_f (by rw [eC, hck]; rfl) hX
    by_cases hLe : L = []
    · have ht0 : tsL vs rise fall L = [] := by rw [hLe]; rfl
      refine FnOK.ttree (SLf_ok true true) mixed Tryz.func3 someLW (loops_one one10 (hkN hvs.symm hv hL hc r1 r2 f1 f2 hLe)) (lfN LW0 (intsV zs) _ (fun v => v = .bool true)) ?_
      rw [hrise, hfall]
      refine f1' true true [] (by rw [hLe]; rfl) (by rw [hLe]; exact isE_nil) (by rw [htr, ht0]; exact isE_nil) _ (pick_f (by rw [eN]; rfl) (pick_f (by rw [eN]; rfl) ⟨⟨?_, rfl⟩, rfl⟩))
      rw [eV]
      show outV vs nilV nilV ((vs.length : Nat) : Int) 0 = _
      rw [hIl]
    · by_cases hTe : tsL vs rise fall L = []
      · refine FnOK.ttree (SLf_ok false true) mixed Tryz.func3 someLW (loops_one one10 (hkM hvs.symm hv hL hc r1 r2 f1 f2 hLe hTe)) (lfM LW0 (intsV zs) _ (fun v => v = .bool true)) ?_
        rw [hrise, hfall]
        refine f1' false true _ eP' (isE_ne hLe) (by rw [htr, hTe]; exact isE_nil) _ (pick_f (by rw [eC, hck]; rfl) (fin0 _ ⟨⟨?_, rfl⟩, rfl⟩))
        rw [eP, eV]
        show outV vs (fz ⟨L.map tV⟩) nilV ((vs.length : Nat) : Int) 0 = _
        rw [hIl]
      · refine FnOK.ttree (SLf_ok false false) mixed Tryz.func3 someLW (loops_one one10 (hkS hvs.symm hv hL hc r1 r2 f1 f2 hLe hTe)) (lfS LW0 (intsV zs) _ (fun v => v = .bool true)) ?_
        rw [hrise, hfall]
        refine f1' false false _ eP' (isE_ne hLe) (by rw [htr]; exact isE_ne hTe) _ (pick_f (by rw [eC, hck]; rfl) (fin0 _ ⟨⟨?_, rfl⟩, rfl⟩))
        rw [eT, eP, eV, htr]
        show outV vs (fz ⟨L.map tV⟩) (fz ⟨(tsL vs rise fall L).map tV⟩) ((vs.length : Nat) : Int) 0 = _
        rw [hIl]
  · have htr : trV vs rise fall (L.map tV) = [] := by rw [trV, if_neg hck]
    have hne : (LW0.ck (LW0.vs (intsV zs)) (LW0.ps (intsV zs) (LW0.vs (intsV zs)) (LW0.en (intsV zs) + 1 + 1)) != 0) = true := by rw [eC]; exact bne_iff_ne.2 hck
    have hLe : L ≠ [] := fun q => hck (by rw [q]; rfl)
    refine FnOK.ttree (SLf_ok false true) mixed Tryz.func3 someLW (loops_one one10 dead) (lfM LW0 (intsV zs) _ (fun v => v = .bool true)) ?_
    rw [hrise, hfall]
    exact f1' false true _ eP' (isE_ne hLe) (by rw [htr]; exact isE_nil) _ (pick_t hne (pick_t hne rfl))

theorem walk (a0 : Option Addr) (len0 cap0 : Nat) (z0 : List Int) (w : World) (w0 : IsRow .i64 w a0 len0 cap0 z0) :
    Calls Tryz.prog 3 #[.slice a0 len0 cap0] w fun e w' => e = .returned (.bool true) ∧ Below w.heap.size w w' := IsRow.law all a0 len0 cap0 z0 w w0
end healthIsByItself
end Go.Proofs.YtbeodpcdjlphkaaGreatDoor
