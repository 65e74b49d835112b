/-
  'ScopesAgree' returns true for every list of integers, and leaves what was there as it was.
-/
import Derived.Test.YtlgoekbfohhplaaGreatDoorScopeN
import Derived.Below
namespace Go.Proofs.YtlgoekbfohhplaaGreatDoor
open Go.Ev Go.RowKit ScopeLaw

/-- What a slice of integers that came in reads as. -/
def IsRow (k : IntKind) (w : World) (a : Option Addr) (len cap : Nat) (zs : List Int) : Prop :=
  (a = none ∧ len = 0 ∧ cap = 0 ∧ zs = []) ∨
  ∃ x, a = some x ∧ len ≤ cap ∧ cap ≤ maxLen ∧ zs.length = cap ∧ (∀ i, i < zs.length → w.cell? (x.add i) = some (.int k (zs.getD i 0))) ∧ ∀ n ∈ zs, (Lit.int k n).wf = true

theorem IsRow.law {f : FuncId} (hF : ∀ zs : List Int, FnOK 0 Tryz.prog f ⟨[fz (intsV zs)]⟩ h0 (fun v _ => v = .bool true)) (a : Option Addr) (len cap : Nat) (zs : List Int) (w : World) (h : IsRow .i64 w a len cap zs) :
    Calls Tryz.prog f #[.slice a len cap] w fun e w' => e = .returned (.bool true) ∧ Below w.heap.size w w' := by
  refine FnOK.law (zs := zs) (hF _) ?_
  rcases h with h | ⟨x, h1, h2, _, h3, h4, _⟩
  · exact .inl h
  · exact .inr ⟨x, h1, h2, h3, h4⟩


noncomputable def LWg : Hooks := ghost1 2 (freezeG 112 false 1 [6])
theorem rids3 : ((loopsOf (codeOf Tryz.f3)).all fun b => match rid b with | some j => Nat.blt j 1000000 | none => true) = true := by kernel_rfl
theorem LWg_ok : LoopsOK 0 Tryz.prog 112 LWg (codeOf Tryz.f3) := ghosts_one rids3 (freezeG_ok _ _ _ _ _ _)
theorem some3 : Tryz.f3.body.isSome = true := by kernel_rfl
/-- The scope that is asked for. -/
def wantS (r : Int) : ByteArray := toStr ([Value.string { data := #[97] }, Value.string { data := #[97, 58, 42] }, Value.string { data := #[97, 58, 98] }, Value.string { data := #[97, 58, 98, 58, 42] }, Value.string { data := #[97, 58, 98, 58, 99] }, Value.string { data := #[98] }, Value.string { data := #[98, 58, 99] }, Value.string { data := #[42] }, Value.string { data := #[97, 58, 99] }].getD (0 + r.toNat * 1) (Value.tuple { toList := [] }))
def wantX (r : Int) : List Value := [.string (wantS r)]
def lawF (A X L : List Value) (Q : Value → Prop) : Prop :=
  cond (allV L X == allV A X) (cond (allV L A) (cond (allV A L) (Q (.bool true)) (Q (.bool false))) (Q (.bool false))) (Q (.bool false))
def lawE (A B X L : List Value) (Q : Value → Prop) : Prop :=
  cond (allV A X) (cond (allV (meetV A B) X == allV B X) (lawF A X L Q) (Q (.bool false))) (cond (allV (meetV A B) X == false) (lawF A X L Q) (Q (.bool false)))
def lawP (A B X L : List Value) (Q : Value → Prop) : Prop :=
  cond (tenR X && tenR A) (cond (tenR X && tenR B) (cond (tenR X && tenR (meetV A B)) (cond (tenR X && tenR L) (cond (tenR A && tenR L) (cond (tenR L && tenR A) (lawE A B X L Q) False) False) False) False) False) False
noncomputable def lawD (xs : Array Value) (n : Int) (Z : Prop) : Prop :=
  cond (decide (nextR xs 0 5 = n) && allInts xs && true) (cond (allInts xs) (cond (decide (0 ≤ scE xs (1 + n)) && decide (scE xs (1 + n) ≤ 1000000) && true && true && true && allInts xs)
    (cond (decide (0 ≤ nextR xs (scE xs (1 + n)) 9) && decide (nextR xs (scE xs (1 + n)) 9 < 9)) (cond ((0 + (nextR xs (scE xs (1 + n)) 9).toNat * 1).blt 9) Z False) False) False) False) False
theorem lw0 (xs : Array Value) (Q : Value → Prop) : tfn Tryz.prog (SLw 0) [] LWg 3000 [] Tryz.f3 [fz xs] h0 (fun v _ => Q v) =
    lawD xs 0 (cond (fourR [] && fourR (scL xs 1)) (lawP [] (scL xs 1) (wantX (nextR xs (scE xs 1) 9)) [] Q) False) := by kernel_rfl
theorem lw1 (xs : Array Value) (Q : Value → Prop) : tfn Tryz.prog (SLw 1) [] LWg 3000 [] Tryz.f3 [fz xs] h0 (fun v _ => Q v) =
    lawD xs 1 (cond (fourR ((drawnS xs 1 1).map Value.string) && fourR (scL xs 2)) (cond (nineR ((drawnS xs 1 1).map Value.string) && Nat.ble 1 ((drawnS xs 1 1).map Value.string).length) (lawP ((drawnS xs 1 1).map Value.string) (scL xs 2) (wantX (nextR xs (scE xs 2) 9)) (leastV ((drawnS xs 1 1).map Value.string)) Q) False) False) := by kernel_rfl
theorem lw2 (xs : Array Value) (Q : Value → Prop) : tfn Tryz.prog (SLw 2) [] LWg 3000 [] Tryz.f3 [fz xs] h0 (fun v _ => Q v) =
    lawD xs 2 (cond (fourR ((drawnS xs 1 2).map Value.string) && fourR (scL xs 3)) (cond (nineR ((drawnS xs 1 2).map Value.string) && Nat.ble 1 ((drawnS xs 1 2).map Value.string).length) (lawP ((drawnS xs 1 2).map Value.string) (scL xs 3) (wantX (nextR xs (scE xs 3) 9)) (leastV ((drawnS xs 1 2).map Value.string)) Q) False) False) := by kernel_rfl
theorem lw3 (xs : Array Value) (Q : Value → Prop) : tfn Tryz.prog (SLw 3) [] LWg 3000 [] Tryz.f3 [fz xs] h0 (fun v _ => Q v) =
    lawD xs 3 (cond (fourR ((drawnS xs 1 3).map Value.string) && fourR (scL xs 4)) (cond (nineR ((drawnS xs 1 3).map Value.string) && Nat.ble 1 ((drawnS xs 1 3).map Value.string).length) (lawP ((drawnS xs 1 3).map Value.string) (scL xs 4) (wantX (nextR xs (scE xs 4) 9)) (leastV ((drawnS xs 1 3).map Value.string)) Q) False) False) := by kernel_rfl
theorem lw4 (xs : Array Value) (Q : Value → Prop) : tfn Tryz.prog (SLw 4) [] LWg 3000 [] Tryz.f3 [fz xs] h0 (fun v _ => Q v) =
    lawD xs 4 (cond (fourR ((drawnS xs 1 4).map Value.string) && fourR (scL xs 5)) (cond (nineR ((drawnS xs 1 4).map Value.string) && Nat.ble 1 ((drawnS xs 1 4).map Value.string).length) (lawP ((drawnS xs 1 4).map Value.string) (scL xs 5) (wantX (nextR xs (scE xs 5) 9)) (leastV ((drawnS xs 1 4).map Value.string)) Q) False) False) := by kernel_rfl
theorem wantS_ten (r : Int) (h0 : 0 ≤ r) (h1 : r < 9) : inTen (wantS r) = true := by
  have : r = 0 ∨ r = 1 ∨ r = 2 ∨ r = 3 ∨ r = 4 ∨ r = 5 ∨ r = 6 ∨ r = 7 ∨ r = 8 := by omega
  rcases this with rfl | rfl | rfl | rfl | rfl | rfl | rfl | rfl | rfl <;> decide
theorem wantX_ten (r : Int) (h0 : 0 ≤ r) (h1 : r < 9) : tenR (wantX r) = true := by
  simp [tenR, wantX, isTen, wantS_ten r h0 h1]
theorem any_C (hs : List Value) (s : ByteArray) : anyV1 (gB s) hs = anyC covB (hs.map unS) s.data.toList := by
  unfold anyV1 anyC
  rw [List.any_map]
  rfl
theorem all_C (hs vs : List Value) : allV hs vs = allC covB (hs.map unS) (vs.map unS) := by
  unfold allV allC
  rw [List.all_map]
  congr 1
  funext v
  exact any_C hs (toStr v)
theorem lawF_ok {A X L : List Value} {Q : Value → Prop} (h1 : allV L X = allV A X) (h2 : allV L A = true) (h3 : allV A L = true) (hQ : Q (.bool true)) : lawF A X L Q := by
  unfold lawF
  rw [h1, h2, h3, beq_self_eq_true]
  exact hQ
theorem lawE_ok {A B X L : List Value} {Q : Value → Prop} (h0 : allV (meetV A B) X = (allV A X && allV B X)) (h1 : allV L X = allV A X) (h2 : allV L A = true) (h3 : allV A L = true) (hQ : Q (.bool true)) : lawE A B X L Q := by
  have hF := lawF_ok (Q := Q) h1 h2 h3 hQ
  unfold lawE
  rw [h0]
  cases hA : allV A X with
  | true => rw [Bool.true_and, beq_self_eq_true]; exact hF
  | false => rw [Bool.false_and, beq_self_eq_true]; exact hF
theorem lawP_ok {A B : List Value} {r : Int} {L : List Value} {Q : Value → Prop} (hA : fourR A = true) (hB : fourR B = true) (h0 : 0 ≤ r) (h9 : r < 9) (hL : L = leastV A) (hQ : Q (.bool true)) : lawP A B (wantX r) L Q := by
  subst hL
  obtain ⟨an, a4⟩ := fourR_nine hA
  obtain ⟨bn, b4⟩ := fourR_nine hB
  have hat := nineR_ten an
  have hbt := nineR_ten bn
  have hX := wantX_ten r h0 h9
  have ain : ∀ x ∈ A.map unS, x ∈ ten := fun x hx => nine_ten x ((nineR_ok an).2.1 x hx)
  have bin : ∀ x ∈ B.map unS, x ∈ ten := fun x hx => nine_ten x ((nineR_ok bn).2.1 x hx)
  have lenR : ∀ l : List (List UInt8), (leastR l).length ≤ l.length := fun l => by
    unfold leastR
    refine Nat.le_trans (List.length_filter_le _ _) ?_
    have := cut_le (srt l)
    rw [srt_len] at this
    exact this
  have hM : tenR (meetV A B) = true := by
    refine tenR_mk (meetR_in ain bin) ?_
    refine Nat.le_trans (lenR _) ?_
    rw [← mAll_un, List.length_map]
    refine Nat.le_trans (mAll_len A B) (Nat.le_trans (Nat.mul_le_mul a4 b4) (by omega))
  have hLt : tenR (leastV A) = true := by
    refine tenR_mk (leastR_in ain) ?_
    refine Nat.le_trans (lenR _) ?_
    rw [List.length_map]; omega
  have hx : wantX r = [Value.string (wantS r)] := rfl
  have hwt := inTen_ok (wantS_ten r h0 h9)
  have one : ∀ hs : List Value, allV hs (wantX r) = anyC covB (hs.map unS) (wantS r).data.toList := fun hs => by
    rw [all_C, hx]
    simp [allC, unS, toStr]
  refine need_mk (by rw [hX, hat]; rfl) (need_mk (by rw [hX, hbt]; rfl) (need_mk (by rw [hX, hM]; rfl) (need_mk (by rw [hX, hLt]; rfl) (need_mk (by rw [hat, hLt]; rfl) (need_mk (by rw [hLt, hat]; rfl) ?_)))))
  refine lawE_ok ?_ ?_ ?_ ?_ hQ
  · rw [one, one, one]
    unfold meetV
    rw [un_map, meetR_any ain bin hwt]
  · rw [one, one]
    unfold leastV
    rw [un_map, leastR_any ain hwt]
  · rw [all_C]
    unfold leastV
    rw [un_map, leastR_forth ain]
  · rw [all_C]
    unfold leastV
    rw [un_map, leastR_back ain]
theorem lawD_ok (zs : List Int) {n : Nat} (hn : nextR (intsV zs) 0 5 = (n : Int)) {Z : Prop} (hZ : 0 ≤ nextR (intsV zs) (scE (intsV zs) (1 + (n : Int))) 9 → nextR (intsV zs) (scE (intsV zs) (1 + (n : Int))) 9 < 9 → Z) : lawD (intsV zs) (n : Int) Z := by
  have hb := (nextR_spec zs 5 0 (by omega) (by omega) (by omega) (by omega)).1
  have hc := (nextR_spec zs 5 (1 + (n : Int)) (by omega) (by omega) (by omega) (by omega)).1
  have hd := (nextR_spec zs 9 (scE (intsV zs) (1 + (n : Int))) (by unfold scE; omega) (by unfold scE; omega) (by omega) (by omega)).1
  have he : 0 ≤ scE (intsV zs) (1 + (n : Int)) ∧ scE (intsV zs) (1 + (n : Int)) ≤ 1000000 := by unfold scE; omega
  refine need_mk (by rw [hn, allInts_intsV]; simp) (need_mk (allInts_intsV zs) (need_mk (by rw [allInts_intsV]; simp [he.1, he.2]) (need_mk (by simp [hd.1, hd.2]) (need_mk ?_ (hZ hd.1 hd.2)))))
  rw [Nat.blt, Nat.ble_eq]; omega
theorem leastV_nil : ([] : List Value) = leastV [] := by
  unfold leastV leastR
  rw [show ([] : List Value).map unS = [] from rfl, rising_nil]
  rfl

namespace scopesAgree
theorem all (zs : List Int) : FnOK 0 Tryz.prog 3 ⟨[fz (intsV zs)]⟩ h0 (fun v _ => v = .bool true) := by
  have hb := (nextR_spec zs 5 0 (by omega) (by omega) (by omega) (by omega)).1
  have hc : nextR (intsV zs) 0 5 = 0 ∨ nextR (intsV zs) 0 5 = 1 ∨ nextR (intsV zs) 0 5 = 2 ∨ nextR (intsV zs) 0 5 = 3 ∨ nextR (intsV zs) 0 5 = 4 := by omega
  rcases hc with h | h | h | h | h
  · have hB := scL_four zs (d := 1) (by omega) (by omega)
    refine FnOK.ttree (SLw_ok 0) mixed Tryz.func3 some3 LWg_ok (lw0 (intsV zs) (fun v => v = .bool true)) (lawD_ok zs (n := 0) h fun h1 h2 => need_mk ?_ (lawP_ok rfl hB h1 h2 leastV_nil rfl))
    rw [hB]; rfl
  · have hA := drawn_four zs (n := 1) (by omega) (e := 1) (by omega) (by omega)
    have hB := scL_four zs (d := 2) (by omega) (by omega)
    refine FnOK.ttree (SLw_ok 1) mixed Tryz.func3 some3 LWg_ok (lw1 (intsV zs) (fun v => v = .bool true)) (lawD_ok zs (n := 1) h fun h1 h2 => need_mk ?_ (need_mk ?_ (lawP_ok hA hB h1 h2 rfl rfl)))
    · rw [hA, hB]; rfl
    · rw [(fourR_nine hA).1]; rfl
  · have hA := drawn_four zs (n := 2) (by omega) (e := 1) (by omega) (by omega)
    have hB := scL_four zs (d := 3) (by omega) (by omega)
    refine FnOK.ttree (SLw_ok 2) mixed Tryz.func3 some3 LWg_ok (lw2 (intsV zs) (fun v => v = .bool true)) (lawD_ok zs (n := 2) h fun h1 h2 => need_mk ?_ (need_mk ?_ (lawP_ok hA hB h1 h2 rfl rfl)))
    · rw [hA, hB]; rfl
    · rw [(fourR_nine hA).1]; rfl
  · have hA := drawn_four zs (n := 3) (by omega) (e := 1) (by omega) (by omega)
    have hB := scL_four zs (d := 4) (by omega) (by omega)
    refine FnOK.ttree (SLw_ok 3) mixed Tryz.func3 some3 LWg_ok (lw3 (intsV zs) (fun v => v = .bool true)) (lawD_ok zs (n := 3) h fun h1 h2 => need_mk ?_ (need_mk ?_ (lawP_ok hA hB h1 h2 rfl rfl)))
    · rw [hA, hB]; rfl
    · rw [(fourR_nine hA).1]; rfl
  · have hA := drawn_four zs (n := 4) (by omega) (e := 1) (by omega) (by omega)
    have hB := scL_four zs (d := 5) (by omega) (by omega)
    refine FnOK.ttree (SLw_ok 4) mixed Tryz.func3 some3 LWg_ok (lw4 (intsV zs) (fun v => v = .bool true)) (lawD_ok zs (n := 4) h fun h1 h2 => need_mk ?_ (need_mk ?_ (lawP_ok hA hB h1 h2 rfl rfl)))
    · rw [hA, hB]; rfl
    · rw [(fourR_nine hA).1]; rfl

theorem walk (a0 : Option Addr) (len0 cap0 : Nat) (z0 : List Int) (w : World) (w0 : IsRow .i64 w a0 len0 cap0 z0) :
    Calls Tryz.prog 3 #[.slice a0 len0 cap0] w fun e w' => e = .returned (.bool true) ∧ Below w.heap.size w w' := IsRow.law all a0 len0 cap0 z0 w w0
end scopesAgree
end Go.Proofs.YtlgoekbfohhplaaGreatDoor
