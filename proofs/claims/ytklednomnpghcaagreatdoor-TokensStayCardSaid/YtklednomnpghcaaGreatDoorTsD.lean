/-
  Tokens stay: draws at any place; signers as they are drawn.
-/
import Derived.Test.YtklednomnpghcaaGreatDoorTsC
namespace Go.Proofs.YtklednomnpghcaaGreatDoor
open Go.Ev Go.RowKit

theorem someRG : Tryz.f24.body.isSome = true := by kernel_rfl
theorem rgf (xs : Array Value) (d : Int) (Q : Value → Option Obj → Prop) : ffn Tryz.prog SI [] 600 [] Tryz.f24 [.pointer (some ⟨0, 0, none⟩), .int .i64 0, .int .i64 3] (Ev.h1 (strm xs d)) (fun v h => Q v (h.get 0)) =
    bif decide (0 ≤ d) && decide (d ≤ 1000000) && true && true && true && allInts xs then Q (.int .i64 (IntKind.i64.wrap (0 + nextR xs d 4))) (some (strm xs (d + 1))) else False := by kernel_rfl
/-- Range from 0 to hi, told beforehand. -/
noncomputable def spRg (r : Int) (f : FuncId) (args : Array Value) (h : AH) : Option (Bool × Value × AH) :=
  cond (Nat.beq f 24) (match args with
    | ⟨[.pointer (some ⟨b, 0, none⟩), .int .i64 lo, .int .i64 hi]⟩ => cond (decide (lo = 0) && decide (hi = 3)) (match h.get b with
      | some (.cells ⟨[.func (.yield 0) xs ⟨[]⟩, .int .i64 at_]⟩ t (0, 0)) =>
        some (Nat.beq t 25 && decide (0 ≤ at_) && decide (at_ ≤ 1000000) && allInts xs && decide (nextR xs at_ 4 = r), .int .i64 r, h.set b (.cells ⟨[fz xs, .int .i64 (at_ + 1)]⟩ 25 (0, 0)))
      | _ => none) none
    | _ => none) none
theorem spRg_ok (r : Int) : SpOK (spRg r) := by
  intro f args h v h' hs
  unfold spRg at hs
  obtain ⟨hf, hs2⟩ := cond_some hs
  clear hs
  have := Nat.eq_of_beq_eq_true hf
  subst this
  split at hs2
  · rename_i b lo hi
    obtain ⟨hq, hs2⟩ := cond_some hs2
    simp only [Bool.and_eq_true, decide_eq_true_eq] at hq
    obtain ⟨rfl, rfl⟩ := hq
    split at hs2
    · rename_i xs at_ t hg
      injection hs2 with hs
      injection hs with hb hs
      injection hs with hv hh
      subst hv hh
      simp only [Bool.and_eq_true, decide_eq_true_eq] at hb
      obtain ⟨⟨⟨⟨b1, b2⟩, b3⟩, b4⟩, b5⟩ := hb
      have b1 := Nat.eq_of_beq_eq_true b1
      subst b1
      obtain ⟨zs, rfl⟩ := intsV_of_all b4
      have hb := (nextR_spec zs 4 at_ b2 b3 (by omega) (by omega)).1
      have hF : FnOK 1 Tryz.prog 24 ⟨[.pointer (some ⟨0, 0, none⟩), .int .i64 0, .int .i64 3]⟩ (Ev.h1 (strm (intsV zs) at_)) (fun u g => u = .int .i64 r ∧ g.get 0 = some (strm (intsV zs) (at_ + 1))) := by
        refine FnOK.ftree SI_ok mixed Tryz.func24 someRG (rgf (intsV zs) at_ (fun u o => u = .int .i64 r ∧ o = some (strm (intsV zs) (at_ + 1)))) ?_
        rw [b5, wrap_id _ (by omega) (by omega)]
        refine need_mk ?_ ⟨by rw [Int.zero_add], rfl⟩
        rw [decide_eq_true b2, decide_eq_true b3, b4]
        rfl
      exact ⟨FnOK.ref (cs := ⟨[fz (intsV zs), .int .i64 at_]⟩) (cs' := ⟨[fz (intsV zs), .int .i64 (at_ + 1)]⟩) (args := [.int .i64 0, .int .i64 3]) hF rfl (by simp [p1, fz]) (by simp [p1, fz]) rfl hg, Nat.le_refl _⟩
    · cases hs2
  · cases hs2
noncomputable def SGr (r : Int) : SC := ⟨idn, spOr (spRg r) (spNext []), true, true⟩
theorem SGr_ok (r : Int) : (SGr r).cfg.OK Tryz.prog := ((spRg_ok r).or (spNext_ok [])).cfg
/-- One draw. -/
noncomputable def dw (xs : Array Value) (at_ n : Int) (Z : Prop) : Prop := bif Nat.beq 25 25 && decide (0 ≤ at_) && decide (at_ ≤ 1000000) && decide (1 ≤ n) && decide (n ≤ 1000000000000) && true && allInts xs then bif decide (0 ≤ nextR xs at_ n) && decide (nextR xs at_ n < n) then bif (0 + (nextR xs at_ n).toNat * 1).blt n.toNat then Z else False else False else False
theorem dw_ok (zs : List Int) {d n : Int} (h0 : 0 ≤ d) (h1 : d ≤ 1000000) (hn : 1 ≤ n) (hn2 : n ≤ 100) {Z : Prop} (hZ : Z) : dw (intsV zs) d n Z := by
  have hb := (nextR_spec zs n d h0 h1 hn (by omega)).1
  refine need_mk ?_ (need_mk (by simp [hb.1, hb.2]) (need_mk ?_ hZ))
  · rw [decide_eq_true h0, decide_eq_true h1, decide_eq_true hn, decide_eq_true (by omega : n ≤ 1000000000000), allInts_intsV]; rfl
  · rw [Nat.blt, Nat.ble_eq]; omega
def gIt (l : List Value) (r : Int) : Int := toInt (l.getD (0 + r.toNat * 1) (Value.tuple { toList := [] }))
def gS (l : List Value) (r : Int) : ByteArray := toStr (l.getD (0 + r.toNat * 1) (Value.tuple { toList := [] }))
/-! RightSigners -/
noncomputable def sgD (xs : Array Value) (d f : Int) : S4 :=
  (gS [Value.string ⟨#[111, 110, 101]⟩, Value.string ⟨#[116, 119, 111]⟩, Value.string ⟨#[107, 33]⟩] (nextR xs (d + 1) 3), IntKind.i64.wrap (f + gIt [Value.int IntKind.i64 0, Value.int IntKind.i64 10, Value.int IntKind.i64 50, Value.int IntKind.i64 100] (nextR xs d 4)), IntKind.i64.wrap (IntKind.i64.wrap (f + gIt [Value.int IntKind.i64 0, Value.int IntKind.i64 10, Value.int IntKind.i64 50, Value.int IntKind.i64 100] (nextR xs d 4)) + gIt [Value.int IntKind.i64 0, Value.int IntKind.i64 10, Value.int IntKind.i64 100, Value.int IntKind.i64 200] (nextR xs (d + 1 + 1) 4)), IntKind.i64.wrap (IntKind.i64.wrap (IntKind.i64.wrap (f + gIt [Value.int IntKind.i64 0, Value.int IntKind.i64 10, Value.int IntKind.i64 50, Value.int IntKind.i64 100] (nextR xs d 4)) + gIt [Value.int IntKind.i64 0, Value.int IntKind.i64 10, Value.int IntKind.i64 100, Value.int IntKind.i64 200] (nextR xs (d + 1 + 1) 4)) + gIt [Value.int IntKind.i64 0, Value.int IntKind.i64 5, Value.int IntKind.i64 100, Value.int IntKind.i64 1000] (nextR xs (d + 1 + 1 + 1) 4)))
noncomputable def sgP (xs : Array Value) (d : Int) (Z : Prop) : Prop := dw xs d 4 (dw xs (d + 1) 3 (dw xs (d + 1 + 1) 4 (dw xs (d + 1 + 1 + 1) 4 Z)))
def sgC (id : ByteArray) (s : S4) : List Value := [.string id, .string s.1, .int .i64 s.2.1, .int .i64 s.2.2.1, .int .i64 s.2.2.2]
def blkN : Value → Nat
  | .slice (some a) _ _ => a.block
  | _ => 999999
theorem rsg0 (xs : Array Value) (d : Int) (Q : Value → Option Obj → Option Obj → Prop) : ffn Tryz.prog (SGr 0) [] 3000 [] Tryz.f6 [.pointer (some ⟨0, 0, none⟩)] (Ev.h1 (strm xs d)) (fun v h => Q v (h.get 0) (h.get (blkN v))) =
    bif decide (0 ≤ d) && decide (d ≤ 1000000) && allInts xs && decide (nextR xs d 4 = 0) then Q (.slice none 0 0) (some (strm xs (d + 1))) none else False := by kernel_rfl
theorem rsg1 (xs : Array Value) (d : Int) (Q : Value → Option Obj → Option Obj → Prop) : ffn Tryz.prog (SGr 1) [] 3000 [] Tryz.f6 [.pointer (some ⟨0, 0, none⟩)] (Ev.h1 (strm xs d)) (fun v h => Q v (h.get 0) (h.get (blkN v))) =
    bif decide (0 ≤ d) && decide (d ≤ 1000000) && allInts xs && decide (nextR xs d 4 = 1) then sgP xs (d + 1) (Q (.slice (some ⟨8, 0, none⟩) 1 1) (some (strm xs ((d + 1) + 1 + 1 + 1 + 1))) (some (.cells ⟨sgC ⟨#[115, 49]⟩ (sgD xs (d + 1) 0)⟩ 44 (0, 0)))) else False := by kernel_rfl
theorem rsg2 (xs : Array Value) (d : Int) (Q : Value → Option Obj → Option Obj → Prop) : ffn Tryz.prog (SGr 2) [] 3000 [] Tryz.f6 [.pointer (some ⟨0, 0, none⟩)] (Ev.h1 (strm xs d)) (fun v h => Q v (h.get 0) (h.get (blkN v))) =
    bif decide (0 ≤ d) && decide (d ≤ 1000000) && allInts xs && decide (nextR xs d 4 = 2) then sgP xs (d + 1) (sgP xs ((d + 1) + 1 + 1 + 1 + 1) (Q (.slice (some ⟨15, 0, none⟩) 2 2) (some (strm xs (((d + 1) + 1 + 1 + 1 + 1) + 1 + 1 + 1 + 1))) (some (.cells ⟨sgC ⟨#[115, 49]⟩ (sgD xs (d + 1) 0) ++ sgC ⟨#[115, 50]⟩ (sgD xs ((d + 1) + 1 + 1 + 1 + 1) (sgD xs (d + 1) 0).2.1)⟩ 44 (0, 0))))) else False := by kernel_rfl
theorem rsg3 (xs : Array Value) (d : Int) (Q : Value → Option Obj → Option Obj → Prop) : ffn Tryz.prog (SGr 3) [] 3000 [] Tryz.f6 [.pointer (some ⟨0, 0, none⟩)] (Ev.h1 (strm xs d)) (fun v h => Q v (h.get 0) (h.get (blkN v))) =
    bif decide (0 ≤ d) && decide (d ≤ 1000000) && allInts xs && decide (nextR xs d 4 = 3) then sgP xs (d + 1) (sgP xs ((d + 1) + 1 + 1 + 1 + 1) (sgP xs (((d + 1) + 1 + 1 + 1 + 1) + 1 + 1 + 1 + 1) (Q (.slice (some ⟨22, 0, none⟩) 3 3) (some (strm xs ((((d + 1) + 1 + 1 + 1 + 1) + 1 + 1 + 1 + 1) + 1 + 1 + 1 + 1))) (some (.cells ⟨sgC ⟨#[115, 49]⟩ (sgD xs (d + 1) 0) ++ sgC ⟨#[115, 50]⟩ (sgD xs ((d + 1) + 1 + 1 + 1 + 1) (sgD xs (d + 1) 0).2.1) ++ sgC ⟨#[115, 51]⟩ (sgD xs (((d + 1) + 1 + 1 + 1 + 1) + 1 + 1 + 1 + 1) (sgD xs ((d + 1) + 1 + 1 + 1 + 1) (sgD xs (d + 1) 0).2.1).2.1)⟩ 44 (0, 0)))))) else False := by kernel_rfl
theorem gI4 {a b c e r : Int} (h0 : 0 ≤ r) (h1 : r < 4) : gIt [.int .i64 a, .int .i64 b, .int .i64 c, .int .i64 e] r = a ∨ gIt [.int .i64 a, .int .i64 b, .int .i64 c, .int .i64 e] r = b ∨ gIt [.int .i64 a, .int .i64 b, .int .i64 c, .int .i64 e] r = c ∨ gIt [.int .i64 a, .int .i64 b, .int .i64 c, .int .i64 e] r = e := by
  have h : r = 0 ∨ r = 1 ∨ r = 2 ∨ r = 3 := by omega
  rcases h with rfl | rfl | rfl | rfl
  · exact .inl rfl
  · exact .inr (.inl rfl)
  · exact .inr (.inr (.inl rfl))
  · exact .inr (.inr (.inr rfl))
theorem gS3 {a b c : ByteArray} {r : Int} (h0 : 0 ≤ r) (h1 : r < 3) : gS [.string a, .string b, .string c] r = a ∨ gS [.string a, .string b, .string c] r = b ∨ gS [.string a, .string b, .string c] r = c := by
  have h : r = 0 ∨ r = 1 ∨ r = 2 := by omega
  rcases h with rfl | rfl | rfl
  · exact .inl rfl
  · exact .inr (.inl rfl)
  · exact .inr (.inr rfl)
theorem sg_ok (zs : List Int) {d f : Int} (h0 : 0 ≤ d) (h1 : d ≤ 200000) (f0 : 0 ≤ f) (f1 : f ≤ 1000) : ∃ s, sgD (intsV zs) d f = s ∧ inSec s.1 = true ∧ f ≤ s.2.1 ∧ s.2.1 ≤ f + 100 ∧ s.2.1 ≤ s.2.2.1 ∧ s.2.2.1 ≤ s.2.1 + 200 ∧ s.2.2.1 ≤ s.2.2.2 ∧ s.2.2.2 ≤ s.2.2.1 + 1000 := by
  have b1 := (nextR_spec zs 4 d h0 (by omega) (by omega) (by omega)).1
  have b2 := (nextR_spec zs 3 (d + 1) (by omega) (by omega) (by omega) (by omega)).1
  have b3 := (nextR_spec zs 4 (d + 1 + 1) (by omega) (by omega) (by omega) (by omega)).1
  have b4 := (nextR_spec zs 4 (d + 1 + 1 + 1) (by omega) (by omega) (by omega) (by omega)).1
  have g1 := gI4 (a := 0) (b := 10) (c := 50) (e := 100) b1.1 b1.2
  have g2 := gS3 (a := ⟨#[111, 110, 101]⟩) (b := ⟨#[116, 119, 111]⟩) (c := ⟨#[107, 33]⟩) b2.1 b2.2
  have g3 := gI4 (a := 0) (b := 10) (c := 100) (e := 200) b3.1 b3.2
  have g4 := gI4 (a := 0) (b := 5) (c := 100) (e := 1000) b4.1 b4.2
  refine ⟨_, rfl, inSec_iff.2 g2, ?_⟩
  unfold sgD
  simp only
  generalize gIt [Value.int IntKind.i64 0, Value.int IntKind.i64 10, Value.int IntKind.i64 50, Value.int IntKind.i64 100] (nextR (intsV zs) d 4) = x at g1 ⊢
  generalize gIt [Value.int IntKind.i64 0, Value.int IntKind.i64 10, Value.int IntKind.i64 100, Value.int IntKind.i64 200] (nextR (intsV zs) (d + 1 + 1) 4) = y at g3 ⊢
  generalize gIt [Value.int IntKind.i64 0, Value.int IntKind.i64 5, Value.int IntKind.i64 100, Value.int IntKind.i64 1000] (nextR (intsV zs) (d + 1 + 1 + 1) 4) = z at g4 ⊢
  rw [wrap_id (f + x) (by omega) (by omega), wrap_id (f + x + y) (by omega) (by omega), wrap_id (f + x + y + z) (by omega) (by omega)]
  omega
theorem sgP_ok (zs : List Int) {d : Int} (h0 : 0 ≤ d) (h1 : d ≤ 200000) {Z : Prop} (hZ : Z) : sgP (intsV zs) d Z :=
  dw_ok zs h0 (by omega) (by omega) (by omega) (dw_ok zs (by omega) (by omega) (by omega) (by omega) (dw_ok zs (by omega) (by omega) (by omega) (by omega) (dw_ok zs (by omega) (by omega) (by omega) (by omega) hZ)))
theorem freezeW {p : Nat} {P : Program} {h : AH} {b : Nat} {t : TypeId} {fr : Nat × Nat} (w : Nat) (cs : List Value) {m : Nat} (hw : cond true (Nat.blt 0 w) (Nat.beq w 1) = true) (hl : m * w ≤ cs.length) (hp : ∀ v ∈ cs, p1 v = true) (hb : h.get b = some (.cells ⟨cs⟩ t fr)) :
    Weak p P #[.slice (some ⟨b, 0, none⟩) m m] h #[fz ⟨chunk true w m cs⟩] (h.del b) := by
  have hg := chunk_get true w hw m cs hp hl
  have hc := chunk_len true w m cs
  refine Weak.freeze (n := m) (cap := m) b w ⟨chunk true w m cs⟩ hb (fun v hv => hp v hv) (by simpa using hc) (Nat.le_refl _) hl ?_ ?_ rfl ?_
  · intro i x hx
    exact (hg i x (by simpa using hx)).1
  · intro i j x v hx hv
    have := (hg i x (by simpa using hx)).2 j v hv
    simpa using this
  · intro i
    match i with
    | 0 => exact .inr ⟨rfl, rfl⟩
    | i + 1 => exact .inl (by simp)
theorem someRSG : Tryz.f6.body.isSome = true := by kernel_rfl
theorem rsg_fn (zs : List Int) {d : Int} (h0 : 0 ≤ d) (h1 : d ≤ 100000) : ∃ L e, SgOK none L ∧ d ≤ e ∧ e ≤ d + 16 ∧ FnOK 1 Tryz.prog 6 ⟨[.pointer (some ⟨0, 0, none⟩)]⟩ (Ev.h1 (strm (intsV zs) d)) (fun u g => u = sgW L ∧ g.get 0 = some (strm (intsV zs) e)) := by
  have hb := (nextR_spec zs 4 d h0 (by omega) (by omega) (by omega)).1
  have hc : nextR (intsV zs) d 4 = 0 ∨ nextR (intsV zs) d 4 = 1 ∨ nextR (intsV zs) d 4 = 2 ∨ nextR (intsV zs) d 4 = 3 := by omega
  have ck : ∀ r, nextR (intsV zs) d 4 = r → (decide (0 ≤ d) && decide (d ≤ 1000000) && allInts (intsV zs) && decide (nextR (intsV zs) d 4 = r)) = true := by
    intro r hr
    rw [decide_eq_true h0, decide_eq_true (by omega : d ≤ 1000000), allInts_intsV, decide_eq_true hr]; rfl
  rcases hc with hk | hk | hk | hk
  · exact ⟨[], d + 1, trivial, by omega, by omega, FnOK.ftree (p := 1) (SGr_ok 0) mixed Tryz.func6 someRSG (rsg0 (intsV zs) d (fun v o _ => v = sgW [] ∧ o = some (strm (intsV zs) (d + 1)))) (need_mk (ck 0 hk) ⟨rfl, rfl⟩)⟩
  · obtain ⟨s0, e0, a0, b0, c0, q0, x0, y0, z0⟩ := sg_ok zs (d := (d + 1)) (f := 0) (by omega) (by omega) (by omega) (by omega)
    have hF := rsg1 (intsV zs) d (fun v o q => v = .slice (some ⟨8, 0, none⟩) 1 1 ∧ o = some (strm (intsV zs) ((d + 1) + 1 + 1 + 1 + 1)) ∧ q = some (.cells ⟨sgC ⟨#[115, 49]⟩ s0⟩ 44 (0, 0)))
    rw [e0] at hF
    refine ⟨[s0], ((d + 1) + 1 + 1 + 1 + 1), ⟨a0, by omega, by omega, by omega, by omega, fun g q => (by cases q), trivial⟩, by omega, by omega, FnOK.weak1 ((FnOK.ftree (p := 1) (SGr_ok 1) mixed Tryz.func6 someRSG hF (need_mk (ck 1 hk) (sgP_ok zs (by omega) (by omega) ⟨rfl, rfl, rfl⟩))).mono ?_)⟩
    rintro v g ⟨rfl, q0, hb⟩
    exact ⟨_, _, freezeW 5 (sgC ⟨#[115, 49]⟩ s0) rfl (Nat.le_of_ble_eq_true rfl) (List.all_eq_true.1 rfl) hb, rfl, (del_ne (by decide)).trans q0⟩
  · obtain ⟨s0, e0, a0, b0, c0, q0, x0, y0, z0⟩ := sg_ok zs (d := (d + 1)) (f := 0) (by omega) (by omega) (by omega) (by omega)
    obtain ⟨s1, e1, a1, b1, c1, q1, x1, y1, z1⟩ := sg_ok zs (d := ((d + 1) + 1 + 1 + 1 + 1)) (f := s0.2.1) (by omega) (by omega) (by omega) (by omega)
    have hF := rsg2 (intsV zs) d (fun v o q => v = .slice (some ⟨15, 0, none⟩) 2 2 ∧ o = some (strm (intsV zs) (((d + 1) + 1 + 1 + 1 + 1) + 1 + 1 + 1 + 1)) ∧ q = some (.cells ⟨sgC ⟨#[115, 49]⟩ s0 ++ sgC ⟨#[115, 50]⟩ s1⟩ 44 (0, 0)))
    rw [e0, e1] at hF
    refine ⟨[s0, s1], (((d + 1) + 1 + 1 + 1 + 1) + 1 + 1 + 1 + 1), ⟨a0, by omega, by omega, by omega, by omega, fun g q => (by cases q), ⟨a1, by omega, by omega, by omega, by omega, fun g q => (by cases q; omega), trivial⟩⟩, by omega, by omega, FnOK.weak1 ((FnOK.ftree (p := 1) (SGr_ok 2) mixed Tryz.func6 someRSG hF (need_mk (ck 2 hk) (sgP_ok zs (by omega) (by omega) (sgP_ok zs (by omega) (by omega) ⟨rfl, rfl, rfl⟩)))).mono ?_)⟩
    rintro v g ⟨rfl, q0, hb⟩
    exact ⟨_, _, freezeW 5 (sgC ⟨#[115, 49]⟩ s0 ++ sgC ⟨#[115, 50]⟩ s1) rfl (Nat.le_of_ble_eq_true rfl) (List.all_eq_true.1 rfl) hb, rfl, (del_ne (by decide)).trans q0⟩
  · obtain ⟨s0, e0, a0, b0, c0, q0, x0, y0, z0⟩ := sg_ok zs (d := (d + 1)) (f := 0) (by omega) (by omega) (by omega) (by omega)
    obtain ⟨s1, e1, a1, b1, c1, q1, x1, y1, z1⟩ := sg_ok zs (d := ((d + 1) + 1 + 1 + 1 + 1)) (f := s0.2.1) (by omega) (by omega) (by omega) (by omega)
    obtain ⟨s2, e2, a2, b2, c2, q2, x2, y2, z2⟩ := sg_ok zs (d := (((d + 1) + 1 + 1 + 1 + 1) + 1 + 1 + 1 + 1)) (f := s1.2.1) (by omega) (by omega) (by omega) (by omega)
    have hF := rsg3 (intsV zs) d (fun v o q => v = .slice (some ⟨22, 0, none⟩) 3 3 ∧ o = some (strm (intsV zs) ((((d + 1) + 1 + 1 + 1 + 1) + 1 + 1 + 1 + 1) + 1 + 1 + 1 + 1)) ∧ q = some (.cells ⟨sgC ⟨#[115, 49]⟩ s0 ++ sgC ⟨#[115, 50]⟩ s1 ++ sgC ⟨#[115, 51]⟩ s2⟩ 44 (0, 0)))
    rw [e0, e1, e2] at hF
    refine ⟨[s0, s1, s2], ((((d + 1) + 1 + 1 + 1 + 1) + 1 + 1 + 1 + 1) + 1 + 1 + 1 + 1), ⟨a0, by omega, by omega, by omega, by omega, fun g q => (by cases q), ⟨a1, by omega, by omega, by omega, by omega, fun g q => (by cases q; omega), ⟨a2, by omega, by omega, by omega, by omega, fun g q => (by cases q; omega), trivial⟩⟩⟩, by omega, by omega, FnOK.weak1 ((FnOK.ftree (p := 1) (SGr_ok 3) mixed Tryz.func6 someRSG hF (need_mk (ck 3 hk) (sgP_ok zs (by omega) (by omega) (sgP_ok zs (by omega) (by omega) (sgP_ok zs (by omega) (by omega) ⟨rfl, rfl, rfl⟩))))).mono ?_)⟩
    rintro v g ⟨rfl, q0, hb⟩
    exact ⟨_, _, freezeW 5 (sgC ⟨#[115, 49]⟩ s0 ++ sgC ⟨#[115, 50]⟩ s1 ++ sgC ⟨#[115, 51]⟩ s2) rfl (Nat.le_of_ble_eq_true rfl) (List.all_eq_true.1 rfl) hb, rfl, (del_ne (by decide)).trans q0⟩
end Go.Proofs.YtklednomnpghcaaGreatDoor
