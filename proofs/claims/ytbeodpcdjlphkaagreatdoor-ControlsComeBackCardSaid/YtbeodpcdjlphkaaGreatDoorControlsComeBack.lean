/-
  'ControlsComeBack' returns true for every list of integers, and leaves what was there as it was.
-/
import Derived.Test.YtbeodpcdjlphkaaGreatDoorCcE
import Derived.Below
namespace Go.Proofs.YtbeodpcdjlphkaaGreatDoor
open Go.Ev Go.RowKit CtrlLaw

/-- What a slice of integers that came in reads as. -/
def IsRow (k : IntKind) (w : World) (a : Option Addr) (len cap : Nat) (zs : List Int) : Prop :=
  (a = none ∧ len = 0 ∧ cap = 0 ∧ zs = []) ∨
  ∃ x, a = some x ∧ len ≤ cap ∧ cap ≤ maxLen ∧ zs.length = cap ∧ (∀ i, i < zs.length → w.cell? (x.add i) = some (.int k (zs.getD i 0))) ∧ ∀ n ∈ zs, (Lit.int k n).wf = true

theorem IsRow.law {f : FuncId} (hF : ∀ zs : List Int, FnOK 0 Tryz.prog f ⟨[fz (intsV zs)]⟩ h0 (fun v _ => v = .bool true)) (a : Option Addr) (len cap : Nat) (zs : List Int) (w : World) (h : IsRow .i64 w a len cap zs) :
    Calls Tryz.prog f #[.slice a len cap] w fun e w' => e = .returned (.bool true) ∧ Below w.heap.size w w' := by
  refine FnOK.law (zs := zs) (hF _) ?_
  rcases h with h | ⟨x, h1, h2, _, h3, h4, _⟩
  · exact .inl h
  · exact .inr ⟨x, h1, h2, h3, h4⟩

noncomputable def ctD (xs : Array Value) : Ct := ⟨nextR xs 0 2 == 0, nextR xs 1 2 == 0, nextR xs 2 2 == 0, nextR xs 3 2 == 0, nextR xs 4 2 == 0, nextR xs 5 2 == 0, IntKind.i64.wrap (-1 + nextR xs 6 52), IntKind.i64.wrap (-1 + nextR xs 7 52), IntKind.i64.wrap (-1 + nextR xs 8 5), IntKind.i64.wrap (-1 + nextR xs 9 5), IntKind.i64.wrap (-1 + nextR xs 10 5), IntKind.i64.wrap (-1 + nextR xs 11 5)⟩
theorem someLW : Tryz.f4.body.isSome = true := by kernel_rfl
theorem lwt (F : LwF) (xs : Array Value) (Q : Value → Prop) : ffn Tryz.prog (SE2 F) [] 3000 [] Tryz.f4 [fz xs] h0 (fun v _ => Q v) =
    bif allInts xs then bif allInts xs then bif allInts xs then bif allInts xs then bif allInts xs then bif allInts xs then bif allInts xs then bif allInts xs then bif allInts xs then bif allInts xs then bif allInts xs then bif allInts xs then bif decide (-1 ≤ IntKind.i64.wrap (-1 + nextR xs 6 52)) && decide (IntKind.i64.wrap (-1 + nextR xs 6 52) < 51) && decide (-1 ≤ IntKind.i64.wrap (-1 + nextR xs 7 52)) && decide (IntKind.i64.wrap (-1 + nextR xs 7 52) < 51) && decide (-1 ≤ IntKind.i64.wrap (-1 + nextR xs 8 5)) && decide (IntKind.i64.wrap (-1 + nextR xs 8 5) < 4) && decide (-1 ≤ IntKind.i64.wrap (-1 + nextR xs 9 5)) && decide (IntKind.i64.wrap (-1 + nextR xs 9 5) < 4) && decide (-1 ≤ IntKind.i64.wrap (-1 + nextR xs 10 5)) && decide (IntKind.i64.wrap (-1 + nextR xs 10 5) < 4) && decide (-1 ≤ IntKind.i64.wrap (-1 + nextR xs 11 5)) && decide (IntKind.i64.wrap (-1 + nextR xs 11 5) < 4) then bif F.ok (F.tx (ctD xs)) then bif F.ok (F.tx (ctD xs)) then bif ((nextR xs 0 2 == 0) == (F.rd (F.tx (ctD xs))).b0 && ((nextR xs 1 2 == 0) == (F.rd (F.tx (ctD xs))).b1 && ((nextR xs 2 2 == 0) == (F.rd (F.tx (ctD xs))).b2 && ((nextR xs 3 2 == 0) == (F.rd (F.tx (ctD xs))).b3 && ((nextR xs 4 2 == 0) == (F.rd (F.tx (ctD xs))).b4 && ((nextR xs 5 2 == 0) == (F.rd (F.tx (ctD xs))).b5 && ((IntKind.i64.wrap (-1 + nextR xs 6 52)) == (F.rd (F.tx (ctD xs))).n0 && ((IntKind.i64.wrap (-1 + nextR xs 7 52)) == (F.rd (F.tx (ctD xs))).n1 && ((IntKind.i64.wrap (-1 + nextR xs 8 5)) == (F.rd (F.tx (ctD xs))).n2 && ((IntKind.i64.wrap (-1 + nextR xs 9 5)) == (F.rd (F.tx (ctD xs))).n3 && ((IntKind.i64.wrap (-1 + nextR xs 10 5)) == (F.rd (F.tx (ctD xs))).n4 && ((IntKind.i64.wrap (-1 + nextR xs 11 5)) == (F.rd (F.tx (ctD xs))).n5 && true)))))))))))) then Q (.bool true) else Q (.bool false) else False else False else False else False else False else False else False else False else False else False else False else False else False else False else False := by kernel_rfl
theorem rng (zs : List Int) (d : Nat) (m : Int) (hd : d ≤ 100) (h1 : 1 ≤ m) (h2 : m ≤ 1000) : -1 ≤ IntKind.i64.wrap (-1 + nextR (intsV zs) d m) ∧ IntKind.i64.wrap (-1 + nextR (intsV zs) d m) < m - 1 := by
  have hb := (nextR_spec zs m d (by omega) (by omega) h1 (by omega)).1
  rw [wrap_id _ (by omega) (by omega)]
  omega
theorem ctD_ok (zs : List Int) : CtOk (ctD (intsV zs)) := by
  have r6 := rng zs 6 52 (by omega) (by omega) (by omega)
  have r7 := rng zs 7 52 (by omega) (by omega) (by omega)
  have r8 := rng zs 8 5 (by omega) (by omega) (by omega)
  have r9 := rng zs 9 5 (by omega) (by omega) (by omega)
  have r10 := rng zs 10 5 (by omega) (by omega) (by omega)
  have r11 := rng zs 11 5 (by omega) (by omega) (by omega)
  exact ⟨r6.1, r7.1, r8.1, r9.1, r10.1, r11.1, r6.2, r7.2, r8.2, r9.2, r10.2, r11.2⟩

namespace controlsComeBack
theorem all (zs : List Int) : FnOK 0 Tryz.prog 4 ⟨[fz (intsV zs)]⟩ h0 (fun v _ => v = .bool true) := by
  have hc := ctD_ok zs
  have hok : okS (txB (partsQ (ctD (intsV zs)))) = true := (psOf_tx (parts_len _) (parts_all hc)).1
  have hrd : runQ (psOf (txB (partsQ (ctD (intsV zs))))) c0 = ctD (intsV zs) := by
    rw [(psOf_tx (parts_len _) (parts_all hc)).2]
    exact comes_back _ hc.l0 hc.l1 hc.l2 hc.l3 hc.l4 hc.l5
  refine FnOK.ftree SE2_ok mixed Tryz.func4 someLW (lwt LW0 (intsV zs) (fun v => v = .bool true)) ?_
  have ha := allInts_intsV zs
  have e : LW0.rd (LW0.tx (ctD (intsV zs))) = ctD (intsV zs) := hrd
  have e2 : LW0.ok (LW0.tx (ctD (intsV zs))) = true := hok
  rw [e, e2, ha]
  have l0 := hc.l0; have l1 := hc.l1; have l2 := hc.l2; have l3 := hc.l3; have l4 := hc.l4; have l5 := hc.l5
  have u0 := hc.u0; have u1 := hc.u1; have u2 := hc.u2; have u3 := hc.u3; have u4 := hc.u4; have u5 := hc.u5
  unfold ctD at l0 l1 l2 l3 l4 l5 u0 u1 u2 u3 u4 u5 ⊢
  simp only at l0 l1 l2 l3 l4 l5 u0 u1 u2 u3 u4 u5 ⊢
  exact need_mk rfl (need_mk rfl (need_mk rfl (need_mk rfl (need_mk rfl (need_mk rfl (need_mk rfl (need_mk rfl (need_mk rfl (need_mk rfl (need_mk rfl (need_mk rfl (need_mk (by simp only [Bool.and_eq_true, decide_eq_true_eq]; exact ⟨⟨⟨⟨⟨⟨⟨⟨⟨⟨⟨l0, u0⟩, l1⟩, u1⟩, l2⟩, u2⟩, l3⟩, u3⟩, l4⟩, u4⟩, l5⟩, u5⟩) (need_mk rfl (need_mk rfl (pick_t (by simp) trivial)))))))))))))))

theorem walk (a0 : Option Addr) (len0 cap0 : Nat) (z0 : List Int) (w : World) (w0 : IsRow .i64 w a0 len0 cap0 z0) :
    Calls Tryz.prog 4 #[.slice a0 len0 cap0] w fun e w' => e = .returned (.bool true) ∧ Below w.heap.size w w' := IsRow.law all a0 len0 cap0 z0 w w0
end controlsComeBack
end Go.Proofs.YtbeodpcdjlphkaaGreatDoor
