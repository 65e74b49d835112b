/-
  'HeadersSet' returns true for every list of integers, and leaves what was there as it was.
-/
import Derived.Test.YthhdmehakpjhgaaGreatDoorHeadL
import Derived.Below
namespace Go.Proofs.YthhdmehakpjhgaaGreatDoor
open Go.Ev Go.RowKit

/-- What a slice of integers that came in reads as. -/
def IsRow (k : IntKind) (w : World) (a : Option Addr) (len cap : Nat) (zs : List Int) : Prop :=
  (a = none ∧ len = 0 ∧ cap = 0 ∧ zs = []) ∨
  ∃ x, a = some x ∧ len ≤ cap ∧ cap ≤ maxLen ∧ zs.length = cap ∧ (∀ i, i < zs.length → w.cell? (x.add i) = some (.int k (zs.getD i 0))) ∧ ∀ n ∈ zs, (Lit.int k n).wf = true

theorem IsRow.law {f : FuncId} (hF : ∀ zs : List Int, FnOK 0 Tryz.prog f ⟨[fz (intsV zs)]⟩ h0 (fun v _ => v = .bool true)) (a : Option Addr) (len cap : Nat) (zs : List Int) (w : World) (h : IsRow .i64 w a len cap zs) :
    Calls Tryz.prog f #[.slice a len cap] w fun e w' => e = .returned (.bool true) ∧ Below w.heap.size w w' := by
  refine FnOK.law (zs := zs) (hF _) ?_
  rcases h with h | ⟨x, h1, h2, _, h3, h4, _⟩
  · exact .inl h
  · exact .inr ⟨x, h1, h2, h3, h4⟩

/-- The name, and the value, that is picked. -/
def askV (r : Int) : ByteArray := toStr ([Value.string { data := #[97, 99, 99, 101, 112, 116] }, Value.string { data := #[88, 45, 79, 110, 101] }, Value.string { data := #[110, 101, 119] }].getD (0 + r.toNat * 1) (Value.tuple { toList := [] }))
def valV (r : Int) : ByteArray := toStr ([Value.string { data := #[49] }, Value.string { data := #[] }, Value.string { data := #[122] }].getD (0 + r.toNat * 1) (Value.tuple { toList := [] }))
theorem askV_ask (r : Int) (h0 : 0 ≤ r) (h1 : r < 3) : inU asksU (askV r) = true ∧ inU namesU (askV r) = true := by
  have : r = 0 ∨ r = 1 ∨ r = 2 := by omega
  rcases this with rfl | rfl | rfl <;> exact ⟨rfl, rfl⟩
theorem valV_val (r : Int) (h0 : 0 ≤ r) (h1 : r < 3) : inU valsU (valV r) = true := by
  have : r = 0 ∨ r = 1 ∨ r = 2 := by omega
  rcases this with rfl | rfl | rfl <;> rfl
theorem blt3 (r : Int) (h0 : 0 ≤ r) (h1 : r < 3) : (0 + r.toNat * 1).blt 3 = true := by
  rw [Nat.blt, Nat.ble_eq]; omega
theorem drawnH_ok (zs : List Int) : ∀ (n : Nat) (e : Int), 0 ≤ e → e + 2 * n ≤ 1000 → ∀ p ∈ drawnH (intsV zs) e n, okH p = true
  | 0, _, _, _, p, hp => by simp [drawnH] at hp
  | n + 1, e, h0, h1, p, hp => by
    have b := (nextR_spec zs 11 e (by omega) (by omega) (by omega) (by omega)).1
    have c := (nextR_spec zs 8 (e + 1) (by omega) (by omega) (by omega) (by omega)).1
    rcases List.mem_cons.1 hp with rfl | hp
    · simp only [okH, nmV_in _ b.1 b.2, vlV_in _ c.1 c.2, Bool.and_self]
    · exact drawnH_ok zs n (e + 1 + 1) (by omega) (by omega) p hp
theorem all_isHd (l : List (ByteArray × ByteArray)) : (l.map hv).all isHd = true := by
  rw [List.all_eq_true]
  intro v hv
  obtain ⟨p, _, rfl⟩ := List.mem_map.1 hv
  rfl
theorem all_isStr (l : List ByteArray) : (l.map Value.string).all isStr = true := by
  rw [List.all_eq_true]
  intro v hv
  obtain ⟨p, _, rfl⟩ := List.mem_map.1 hv
  rfl
theorem ble_map {l : List (ByteArray × ByteArray)} {n : Nat} (h : l.length ≤ n) : (l.map hv).length.ble n = true := by
  rw [Nat.ble_eq, List.length_map]; exact h
theorem ble_map1 {l : List (ByteArray × ByteArray)} {n : Nat} (h : n ≤ l.length) : Nat.ble n (l.map hv).length = true := by
  rw [Nat.ble_eq, List.length_map]; exact h
theorem all_okH {l : List (ByteArray × ByteArray)} (h : ∀ p ∈ l, okH p = true) : l.all okH = true ∧ l.all okN = true := by
  refine ⟨List.all_eq_true.2 h, List.all_eq_true.2 fun p hp => ?_⟩
  have := h p hp
  unfold okH at this
  rw [Bool.and_eq_true] at this
  exact this.1
theorem few_map {l : List (ByteArray × ByteArray)} (h : l.length ≤ 50) : decide (((Array.mk (l.map hv)).size : Int) > 50) = false := by
  rw [decide_eq_false_iff_not]
  show ¬ ((((l.map hv).length : Nat) : Int) > 50)
  rw [List.length_map]; omega
theorem none_size : (((Array.mk (List.map Value.string [])).size : Int) == 0) = true := rfl
theorem none_size2 : ((0 : Int) != ((Array.mk (List.map hv [])).size : Int)) = false := rfl

theorem hl0 (xs : Array Value) (Q : Value → Prop) : (ffn Tryz.prog (SLaw (.slice none 0 0) 1) [] 3000 [] Tryz.f3 [fz xs] h0 (fun v _ => Q v)) = bif allInts xs && drawnB xs (Value.slice none 0 0) 1 then bif allInts xs then bif decide (0 ≤ nextR xs 1 3) && decide (nextR xs 1 3 < 3) then bif (0 + (nextR xs 1 3).toNat * 1).blt 3 then bif allInts xs then bif decide (0 ≤ nextR xs 2 3) && decide (nextR xs 2 3 < 3) then bif (0 + (nextR xs 2 3).toNat * 1).blt 3 then bif inU namesU (askV (nextR xs 1 3)) then bif inU valsU (valV (nextR xs (1 + 1) 3)) then bif inU asksU (askV (nextR xs 1 3)) then bif inU namesU (askV (nextR xs 1 3)) then bif (hlist (List.map hv (setL (askV (nextR xs 1 3)) (valV (nextR xs (1 + 1) 3)) (hlist [])))).all okH && true then bif inU namesU (askV (nextR xs 1 3)) then bif (hlist (List.map hv (setL (askV (nextR xs 1 3)) (valV (nextR xs (1 + 1) 3)) (hlist [])))).all okN && true && inU asksU (askV (nextR xs 1 3)) then bif inU namesU (askV (nextR xs 1 3)) then bif inU asksU (askV (nextR xs 1 3)) then bif (hlist (List.map hv (setL (askV (nextR xs 1 3)) (valV (nextR xs (1 + 1) 3)) (hlist [])))).all okH && true then bif inU namesU (askV (nextR xs 1 3)) then bif (hlist (List.map hv (setL (askV (nextR xs 1 3)) (valV (nextR xs (1 + 1) 3)) (hlist [])))).all okN && true && true && inU asksU (askV (nextR xs 1 3)) then bif (List.map Value.string (valuesL (askV (nextR xs 1 3)) (hlist (List.map hv (setL (askV (nextR xs 1 3)) (valV (nextR xs (1 + 1) 3)) (hlist [])))))).all isStr then bif eqS (List.map Value.string (valuesL (askV (nextR xs 1 3)) (hlist (List.map hv (setL (askV (nextR xs 1 3)) (valV (nextR xs (1 + 1) 3)) (hlist [])))))) [Value.string (valV (nextR xs (1 + 1) 3))] then bif 0 != ((Array.mk (List.map hv (removeL (askV (nextR xs 1 3)) (hlist (List.map hv (setL (askV (nextR xs 1 3)) (valV (nextR xs (1 + 1) 3)) (hlist []))))))).size : Int) then Q (Value.bool false) else Q (Value.bool true) else Q (Value.bool false) else False else False else False else False else False else False else False else False else False else False else False else False else False else False else False else False else False else False else False else False := by kernel_rfl 
theorem hl1 (xs : Array Value) (hs : List Value) (last : Int) (Q : Value → Prop) : (ffn Tryz.prog (SLaw (fz ⟨hs⟩) last) [] 3000 [] Tryz.f3 [fz xs] h0 (fun v _ => Q v)) = bif allInts xs && drawnB xs (fz { toList := hs }) last then bif decide (0 ≤ last) && decide (last ≤ 1000000) && true && true && true && allInts xs then bif decide (0 ≤ nextR xs last 3) && decide (nextR xs last 3 < 3) then bif (0 + (nextR xs last 3).toNat * 1).blt 3 then bif decide (0 ≤ last + 1) && decide (last + 1 ≤ 1000000) && true && true && true && allInts xs then bif decide (0 ≤ nextR xs (last + 1) 3) && decide (nextR xs (last + 1) 3 < 3) then bif (0 + (nextR xs (last + 1) 3).toNat * 1).blt 3 then bif hs.all shpH && (hlist hs).all okH && hs.length.ble 50 then bif inU namesU (askV (nextR xs last 3)) then bif inU valsU (valV (nextR xs (last + 1) 3)) then bif hs.all shpH && (hlist hs).all okN && hs.length.ble 50 && inU asksU (askV (nextR xs last 3)) then bif decide (((Array.mk (List.map hv (setL (askV (nextR xs last 3)) (valV (nextR xs (last + 1) 3)) (hlist hs)))).size : Int) > 50) then bif hs.all shpH && (hlist hs).all okH && hs.length.ble 50 then bif inU namesU (askV (nextR xs last 3)) then bif hs.all shpH && (hlist hs).all okN && Nat.ble 1 hs.length && hs.length.ble 6 && inU asksU (askV (nextR xs last 3)) then bif inU namesU (askV (nextR xs last 3)) then bif inU asksU (askV (nextR xs last 3)) then bif (List.map hv (removeL (askV (nextR xs last 3)) (hlist hs))).all shpH && (hlist (List.map hv (removeL (askV (nextR xs last 3)) (hlist hs)))).all okH && (List.map hv (removeL (askV (nextR xs last 3)) (hlist hs))).length.ble 50 then bif inU namesU (askV (nextR xs last 3)) then bif (List.map hv (removeL (askV (nextR xs last 3)) (hlist hs))).all shpH && (hlist (List.map hv (removeL (askV (nextR xs last 3)) (hlist hs)))).all okN && (List.map hv (removeL (askV (nextR xs last 3)) (hlist hs))).length.ble 50 && inU asksU (askV (nextR xs last 3)) then bif inU namesU (askV (nextR xs last 3)) then Q (Value.bool false) else False else False else False else False else False else False else False else False else False else bif hs.all shpH && (hlist hs).all okH && hs.length.ble 50 then bif inU namesU (askV (nextR xs last 3)) then bif hs.all shpH && (hlist hs).all okN && Nat.ble 1 hs.length && hs.length.ble 6 && inU asksU (askV (nextR xs last 3)) then bif (List.map hv (setL (askV (nextR xs last 3)) (valV (nextR xs (last + 1) 3)) (hlist hs))).all shpH && (hlist (List.map hv (setL (askV (nextR xs last 3)) (valV (nextR xs (last + 1) 3)) (hlist hs)))).all okH && (List.map hv (setL (askV (nextR xs last 3)) (valV (nextR xs (last + 1) 3)) (hlist hs))).length.ble 50 then bif inU namesU (askV (nextR xs last 3)) then bif (List.map hv (setL (askV (nextR xs last 3)) (valV (nextR xs (last + 1) 3)) (hlist hs))).all shpH && (hlist (List.map hv (setL (askV (nextR xs last 3)) (valV (nextR xs (last + 1) 3)) (hlist hs)))).all okN && (List.map hv (setL (askV (nextR xs last 3)) (valV (nextR xs (last + 1) 3)) (hlist hs))).length.ble 50 && inU asksU (askV (nextR xs last 3)) then bif (List.map hv (removeL (askV (nextR xs last 3)) (hlist hs))).all shpH && (hlist (List.map hv (removeL (askV (nextR xs last 3)) (hlist hs)))).all okH && (List.map hv (removeL (askV (nextR xs last 3)) (hlist hs))).length.ble 50 then bif inU namesU (askV (nextR xs last 3)) then bif (List.map hv (removeL (askV (nextR xs last 3)) (hlist hs))).all shpH && (hlist (List.map hv (removeL (askV (nextR xs last 3)) (hlist hs)))).all okN && (List.map hv (removeL (askV (nextR xs last 3)) (hlist hs))).length.ble 50 && inU asksU (askV (nextR xs last 3)) then bif (List.map hv (setL (askV (nextR xs last 3)) (valV (nextR xs (last + 1) 3)) (hlist hs))).all shpH && (hlist (List.map hv (setL (askV (nextR xs last 3)) (valV (nextR xs (last + 1) 3)) (hlist hs)))).all okH && (List.map hv (setL (askV (nextR xs last 3)) (valV (nextR xs (last + 1) 3)) (hlist hs))).length.ble 50 then bif inU namesU (askV (nextR xs last 3)) then bif (List.map hv (setL (askV (nextR xs last 3)) (valV (nextR xs (last + 1) 3)) (hlist hs))).all shpH && (hlist (List.map hv (setL (askV (nextR xs last 3)) (valV (nextR xs (last + 1) 3)) (hlist hs)))).all okN && Nat.ble 1 (List.map hv (setL (askV (nextR xs last 3)) (valV (nextR xs (last + 1) 3)) (hlist hs))).length && (List.map hv (setL (askV (nextR xs last 3)) (valV (nextR xs (last + 1) 3)) (hlist hs))).length.ble 6 && inU asksU (askV (nextR xs last 3)) then bif (List.map Value.string (valuesL (askV (nextR xs last 3)) (hlist (List.map hv (setL (askV (nextR xs last 3)) (valV (nextR xs (last + 1) 3)) (hlist hs)))))).all isStr then bif eqS (List.map Value.string (valuesL (askV (nextR xs last 3)) (hlist (List.map hv (setL (askV (nextR xs last 3)) (valV (nextR xs (last + 1) 3)) (hlist hs)))))) [Value.string (valV (nextR xs (last + 1) 3))] then bif ((Array.mk (List.map Value.string (valuesL (askV (nextR xs last 3)) (hlist (List.map hv (removeL (askV (nextR xs last 3)) (hlist hs))))))).size : Int) == 0 then bif (List.map hv (removeL (askV (nextR xs last 3)) (hlist hs))).all isHd && (List.map hv (removeL (askV (nextR xs last 3)) (hlist (List.map hv (setL (askV (nextR xs last 3)) (valV (nextR xs (last + 1) 3)) (hlist hs)))))).all isHd && (List.map hv (removeL (askV (nextR xs last 3)) (hlist hs))).length.ble 4000 then bif eqHd (List.map hv (removeL (askV (nextR xs last 3)) (hlist hs))) (List.map hv (removeL (askV (nextR xs last 3)) (hlist (List.map hv (setL (askV (nextR xs last 3)) (valV (nextR xs (last + 1) 3)) (hlist hs)))))) then Q (Value.bool true) else Q (Value.bool false) else False else Q (Value.bool false) else Q (Value.bool false) else False else False else False else False else False else False else False else False else False else False else False else False else False else False else False else False else False else False else False else False else False else False else False else False := by kernel_rfl 
theorem some3 : Tryz.f3.body.isSome = true := by kernel_rfl
namespace headersSet
theorem empty (zs : List Int) (hn : nextR (intsV zs) 0 6 = 0) : FnOK 0 Tryz.prog 3 ⟨[fz (intsV zs)]⟩ h0 (fun v _ => v = .bool true) := by
  refine FnOK.ftree (SLaw_ok (.slice none 0 0) 1 rfl) mixed Tryz.func3 some3 (hl0 (intsV zs) fun v => v = .bool true) ?_
  have hd : drawnB (intsV zs) (.slice none 0 0) 1 = true := drawnB_eq.2 (.inl ⟨hn, rfl, rfl⟩)
  have b := (nextR_spec zs 3 1 (by omega) (by omega) (by omega) (by omega)).1
  have c := (nextR_spec zs 3 2 (by omega) (by omega) (by omega) (by omega)).1
  have e12 : (1 : Int) + 1 = 2 := rfl
  rw [e12]
  generalize nextR (intsV zs) 1 3 = r at b
  generalize nextR (intsV zs) 2 3 = q at c
  obtain ⟨k1, k2⟩ := askV_ask r b.1 b.2
  have k3 := valV_val q c.1 c.2
  have d1 := blt3 r b.1 b.2
  have d2 := blt3 q c.1 c.2
  have f1 : decide (0 ≤ r) = true := by simp [b.1]
  have f2 : decide (r < 3) = true := by simp [b.2]
  have f3 : decide (0 ≤ q) = true := by simp [c.1]
  have f4 : decide (q < 3) = true := by simp [c.2]
  generalize askV r = k at k1 k2
  generalize valV q = x at k3
  have hh : hlist [] = [] := rfl
  obtain ⟨s1, s2⟩ := all_okH (set_ok (l := []) k2 k3 (fun p hp => by cases hp))
  have hr : removeL k [] = [] := rfl
  simp only [allInts_intsV, hd, f1, f2, f3, f4, d1, d2, k1, k2, k3, hh, hlist_map, s1, s2, Bool.and_self, Bool.and_true, Bool.true_and, cond_true, all_isStr, values_set, List.map_cons, List.map_nil, eqS_self, remove_set, hr]
  exact trivial
theorem some_ (zs : List Int) (n : Nat) (h1 : 1 ≤ n) (h2 : n ≤ 5) (hn : nextR (intsV zs) 0 6 = n) : FnOK 0 Tryz.prog 3 ⟨[fz (intsV zs)]⟩ h0 (fun v _ => v = .bool true) := by
  have hd : drawnB (intsV zs) (fz ⟨(drawnH (intsV zs) 1 n).map hv⟩) (2 * n + 1) = true := drawnB_eq.2 (.inr ⟨n, h1, h2, hn, rfl, rfl⟩)
  have hok := drawnH_ok zs n 1 (by omega) (by omega)
  have hlen := drawnH_len (intsV zs) n 1
  refine FnOK.ftree (SLaw_ok (fz ⟨(drawnH (intsV zs) 1 n).map hv⟩) (2 * n + 1) rfl) mixed Tryz.func3 some3 (hl1 (intsV zs) ((drawnH (intsV zs) 1 n).map hv) (2 * n + 1) fun v => v = .bool true) ?_
  generalize drawnH (intsV zs) 1 n = l at hd hok hlen
  have b := (nextR_spec zs 3 (2 * n + 1) (by omega) (by omega) (by omega) (by omega)).1
  have c := (nextR_spec zs 3 (2 * n + 1 + 1) (by omega) (by omega) (by omega) (by omega)).1
  generalize nextR (intsV zs) (2 * n + 1) 3 = r at b
  generalize nextR (intsV zs) (2 * n + 1 + 1) 3 = q at c
  obtain ⟨k1, k2⟩ := askV_ask r b.1 b.2
  have k3 := valV_val q c.1 c.2
  have d1 := blt3 r b.1 b.2
  have d2 := blt3 q c.1 c.2
  have f1 : decide (0 ≤ r) = true := by simp [b.1]
  have f2 : decide (r < 3) = true := by simp [b.2]
  have f3 : decide (0 ≤ q) = true := by simp [c.1]
  have f4 : decide (q < 3) = true := by simp [c.2]
  have g1 : decide (0 ≤ (2 * n + 1 : Int)) = true := by simp; omega
  have g2 : decide ((2 * n + 1 : Int) ≤ 1000000) = true := by simp; omega
  have g3 : decide (0 ≤ (2 * n + 1 + 1 : Int)) = true := by simp; omega
  have g4 : decide ((2 * n + 1 + 1 : Int) ≤ 1000000) = true := by simp; omega
  generalize askV r = k at k1 k2
  generalize valV q = x at k3
  obtain ⟨l1, l2⟩ := all_okH hok
  obtain ⟨s1, s2⟩ := all_okH (set_ok k2 k3 hok)
  obtain ⟨r1, r2⟩ := all_okH (l := removeL k l) (fun p hp => hok p (List.mem_filter.1 hp).1)
  have hs := set_len k x l
  have hrm : (removeL k l).length ≤ l.length := List.length_filter_le _ _
  have m1 := ble_map (l := l) (n := 50) (by omega)
  have m2 := ble_map (l := l) (n := 6) (by omega)
  have m3 := ble_map1 (l := l) (n := 1) (by omega)
  have m4 := ble_map (l := setL k x l) (n := 50) (by omega)
  have m5 := ble_map (l := setL k x l) (n := 6) (by omega)
  have m6 := ble_map1 (l := setL k x l) (n := 1) (by omega)
  have m7 := ble_map (l := removeL k l) (n := 50) (by omega)
  have m8 := ble_map (l := removeL k l) (n := 4000) (by omega)
  have m9 := few_map (l := setL k x l) (by omega)
  simp only [allInts_intsV, hd, f1, f2, f3, f4, g1, g2, g3, g4, d1, d2, k1, k2, k3, hlist_map, all_shpH, l1, l2, s1, s2, r1, r2, m1, m2, m3, m4, m5, m6, m7, m8, m9, Bool.and_self, Bool.and_true, Bool.true_and, cond_true, cond_false, all_isStr, all_isHd, values_set, values_remove, remove_set, eqHd_self, List.map_cons, List.map_nil, eqS_self]
  exact trivial
theorem all (zs : List Int) : FnOK 0 Tryz.prog 3 ⟨[fz (intsV zs)]⟩ h0 (fun v _ => v = .bool true) := by
  have b := (nextR_spec zs 6 0 (by omega) (by omega) (by omega) (by omega)).1
  by_cases h : nextR (intsV zs) 0 6 = 0
  · exact empty zs h
  · exact some_ zs (nextR (intsV zs) 0 6).toNat (by omega) (by omega) (by omega)
theorem walk (a0 : Option Addr) (len0 cap0 : Nat) (z0 : List Int) (w : World) (w0 : IsRow .i64 w a0 len0 cap0 z0) :
    Calls Tryz.prog 3 #[.slice a0 len0 cap0] w fun e w' => e = .returned (.bool true) ∧ Below w.heap.size w w' := IsRow.law all a0 len0 cap0 z0 w w0
end headersSet
end Go.Proofs.YthhdmehakpjhgaaGreatDoor
