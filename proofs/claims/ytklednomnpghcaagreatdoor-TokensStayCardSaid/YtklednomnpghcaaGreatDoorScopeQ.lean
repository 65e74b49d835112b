/-
  'RightClaims' and 'Delegate' as specifications.
-/
import Derived.Test.YtklednomnpghcaaGreatDoorScopeP
namespace Go.Proofs.YtklednomnpghcaaGreatDoor
open Go.Ev Go.RowKit ScopeLaw

def unF (v : Value) : List Value := (asFz v).getD []
def okW : Value → Bool
  | .slice none 0 0 => true
  | .func (.yield 0) ⟨vs⟩ ⟨[]⟩ => tenR vs
  | _ => false
def okLe : Value → Bool
  | .slice none 0 0 => true
  | .func (.yield 0) ⟨vs⟩ ⟨[]⟩ => nineR vs && Nat.ble 1 vs.length
  | _ => false
def leV : Value → Value
  | .slice none 0 0 => .slice none 0 0
  | .func (.yield 0) ⟨vs⟩ ⟨[]⟩ => fz ⟨leastV vs⟩
  | v => v
/-- Scopes as they are drawn, told whether there are any. -/
noncomputable def scD (e : Bool) (l : List Value) : Value := match e with
  | true => .slice none 0 0
  | false => fz ⟨l⟩
noncomputable def spRT (e : Bool) (f : FuncId) (args : Array Value) (h : AH) : Option (Bool × Value × AH) :=
  cond (Nat.beq f 5) (match args with
    | ⟨[.pointer (some ⟨b, 0, none⟩)]⟩ => match h.get b with
      | some (.cells ⟨[.func (.yield 0) xs ⟨[]⟩, .int .i64 at_]⟩ t (0, 0)) =>
        some (Nat.beq t 25 && decide (0 ≤ at_) && decide (at_ ≤ 100000) && (decide (nextR xs at_ 5 = 0) == e) && allInts xs, scD e (scL xs at_), h.set b (.cells ⟨[fz xs, .int .i64 (scE xs at_)]⟩ 25 (0, 0)))
      | _ => none
    | _ => none) none
/-- The fifth draw told. -/
noncomputable def spNx (ka : Int) (f : FuncId) (args : Array Value) (h : AH) : Option (Bool × Value × AH) :=
  match args with
  | ⟨[_, .int .i64 n]⟩ => cond (decide (n = 5)) (spNext [none, none, none, none, some ka] f args h) (spNext [] f args h)
  | _ => none
noncomputable def SQc (ka : Int) (e : Bool) : SC := ⟨idn, spOr (spRT e) (spOr spLo (spNx ka)), true, true⟩
/-- Scopes as they are drawn. -/
noncomputable def rsW (xs : Array Value) (d : Int) : Value := if nextR xs d 5 = 0 then .slice none 0 0 else fz ⟨scL xs d⟩
theorem scopes_w (zs : List Int) (d : Int) (h0 : 0 ≤ d) (h1 : d ≤ 100000) : FnOK 1 Tryz.prog 5 ⟨[.pointer (some ⟨0, 0, none⟩)]⟩ (Ev.h1 (strm (intsV zs) d)) (fun u g => u = rsW (intsV zs) d ∧ g.get 0 = some (strm (intsV zs) (scE (intsV zs) d))) := by
  by_cases h : nextR (intsV zs) d 5 = 0
  · refine (scopes0 zs d h0 h1 h).mono ?_
    rintro v g ⟨rfl, q⟩
    exact ⟨by rw [rsW, if_pos h], by rw [q, scE, h]; simp⟩
  · have hb := (nextR_spec zs 5 d h0 (by omega) (by omega) (by omega)).1
    have hc : nextR (intsV zs) d 5 = 1 ∨ nextR (intsV zs) d 5 = 2 ∨ nextR (intsV zs) d 5 = 3 ∨ nextR (intsV zs) d 5 = 4 := by omega
    have e : rsW (intsV zs) d = fz ⟨scL (intsV zs) d⟩ := by rw [rsW, if_neg h]
    rw [e]
    rcases hc with h | h | h | h
    · refine (scopes1 zs d h0 h1 h).mono ?_
      rintro v g ⟨rfl, q⟩
      exact ⟨by simp [scL, h], by rw [q, scE, h]⟩
    · refine (scopes2 zs d h0 h1 h).mono ?_
      rintro v g ⟨rfl, q⟩
      exact ⟨by simp [scL, h], by rw [q, scE, h]; congr 2; omega⟩
    · refine (scopes3 zs d h0 h1 h).mono ?_
      rintro v g ⟨rfl, q⟩
      exact ⟨by simp [scL, h], by rw [q, scE, h]; congr 2; omega⟩
    · refine (scopes4 zs d h0 h1 h).mono ?_
      rintro v g ⟨rfl, q⟩
      exact ⟨by simp [scL, h], by rw [q, scE, h]; congr 2; omega⟩
theorem rsW_p1 (xs : Array Value) (d : Int) : p1 (rsW xs d) = true := by
  unfold rsW
  split <;> rfl
noncomputable def spRW (f : FuncId) (args : Array Value) (h : AH) : Option (Bool × Value × AH) :=
  cond (Nat.beq f 5) (match args with
    | ⟨[.pointer (some ⟨b, 0, none⟩)]⟩ => match h.get b with
      | some (.cells ⟨[.func (.yield 0) xs ⟨[]⟩, .int .i64 at_]⟩ t (0, 0)) =>
        some (Nat.beq t 25 && decide (0 ≤ at_) && decide (at_ ≤ 100000) && allInts xs, rsW xs at_, h.set b (.cells ⟨[fz xs, .int .i64 (scE xs at_)]⟩ 25 (0, 0)))
      | _ => none
    | _ => none) none
theorem p1_p3 {v : Value} (h : p1 v = true) (hn : ∀ c, v ≠ .tuple c) (ha : ∀ c, v ≠ .agg c) (hi : ∀ t u, v ≠ .iface t u) : p3 v = true := by
  cases v <;> first | exact h | exact absurd rfl (hn _) | exact absurd rfl (ha _) | exact absurd rfl (hi _ _)
theorem rsW_p3 (xs : Array Value) (d : Int) : p3 (rsW xs d) = true := by
  unfold rsW
  split <;> rfl
theorem spRW_ok : SpOK spRW := by
  intro f args h v h' hs
  unfold spRW at hs
  obtain ⟨hf, hs2⟩ := cond_some hs
  clear hs
  have := Nat.eq_of_beq_eq_true hf
  subst this
  split at hs2
  · split at hs2
    · rename_i xs at_ t hg
      injection hs2 with hs
      injection hs with hb hs
      injection hs with hv hh
      subst hv hh
      simp only [Bool.and_eq_true, decide_eq_true_eq] at hb
      obtain ⟨⟨⟨b0, b1⟩, b2⟩, b3⟩ := hb
      have b0 := Nat.eq_of_beq_eq_true b0
      subst b0
      obtain ⟨zs, rfl⟩ := intsV_of_all b3
      refine ⟨?_, Nat.le_refl _⟩
      exact FnOK.ref (cs := ⟨[fz (intsV zs), .int .i64 at_]⟩) (cs' := ⟨[fz (intsV zs), .int .i64 (scE (intsV zs) at_)]⟩) (args := []) (scopes_w zs at_ b1 b2) rfl (by simp [p1, fz]) (by simp [p1, fz]) (rsW_p3 _ _) hg
    · cases hs2
  · cases hs2
theorem spRT_ok (e : Bool) : SpOK (spRT e) := by
  intro f args h v h' hs
  unfold spRT at hs
  obtain ⟨hf, hs2⟩ := cond_some hs
  clear hs
  have := Nat.eq_of_beq_eq_true hf
  subst this
  split at hs2
  · split at hs2
    · rename_i xs at_ t hg
      injection hs2 with hs
      injection hs with hb hs
      injection hs with hv hh
      subst hv hh
      simp only [Bool.and_eq_true, decide_eq_true_eq] at hb
      obtain ⟨⟨⟨⟨b0, b1⟩, b2⟩, be⟩, b3⟩ := hb
      have b0 := Nat.eq_of_beq_eq_true b0
      subst b0
      obtain ⟨zs, rfl⟩ := intsV_of_all b3
      refine ⟨?_, Nat.le_refl _⟩
      have ew : rsW (intsV zs) at_ = scD e (scL (intsV zs) at_) := by
        unfold rsW
        cases e with
        | true => rw [if_pos (by simpa using be)]; rfl
        | false => rw [if_neg (by simpa using be)]; rfl
      have := scopes_w zs at_ b1 b2
      rw [ew] at this
      exact FnOK.ref (cs := ⟨[fz (intsV zs), .int .i64 at_]⟩) (cs' := ⟨[fz (intsV zs), .int .i64 (scE (intsV zs) at_)]⟩) (args := []) this rfl (by simp [p1, fz]) (by simp [p1, fz]) (by cases e <;> rfl) hg
    · cases hs2
  · cases hs2
theorem spNx_ok (ka : Int) : SpOK (spNx ka) := by
  intro f args h v h' hs
  unfold spNx at hs
  split at hs
  · rename_i x n
    cases hd : decide (n = 5) with
    | true => rw [hd] at hs; exact spNext_ok [none, none, none, none, some ka] _ _ _ _ _ hs
    | false => rw [hd] at hs; exact spNext_ok [] _ _ _ _ _ hs
  · cases hs
theorem SQc_ok (ka : Int) (e : Bool) : (SQc ka e).cfg.OK Tryz.prog := ((spRT_ok e).or (spLo_ok.or (spNx_ok ka))).cfg
/-- Slices within one struct, frozen. -/
theorem freezeA {p : Nat} {P : Program} {h : AH} {b : Nat} {t : TypeId} {fr : Nat × Nat} (cs : List Value) (l : List (List UInt8)) {m : Nat} (hm : l.length = m) (hb : h.get b = some (.cells ⟨l.map scp⟩ t fr)) :
    Weak p P #[.agg ⟨cs⟩] h #[.agg ⟨cs.map (frz1 b m m (fz ⟨l.map scp⟩))⟩] (h.del b) := by
  refine Weak.freezeIn (n := m) (cap := m) b 1 ⟨l.map scp⟩ hb ?_ (by simpa using hm) (Nat.le_refl _) (by simp; omega) ?_ ?_ rfl ?_
  · intro v hv
    obtain ⟨s, _, rfl⟩ := List.mem_map.1 (show v ∈ l.map scp by simpa using hv)
    rfl
  · intro i x hx
    have hx : (l.map scp)[i]? = some x := by simpa using hx
    rw [List.getElem?_map] at hx
    obtain ⟨q, _, rfl⟩ := Option.map_eq_some_iff.1 hx
    rfl
  · intro i j x v hx hv
    have hx : (l.map scp)[i]? = some x := by simpa using hx
    have hx0 := hx
    rw [List.getElem?_map] at hx
    obtain ⟨q, _, rfl⟩ := Option.map_eq_some_iff.1 hx
    match j, hv with
    | 0, hv =>
      have : scp q = v := by simpa [Value.cells, scp] using hv
      rw [← this, Nat.mul_one, Nat.add_zero]
      simpa using hx0
    | j + 1, hv => simp [Value.cells, scp] at hv
  · intro i
    match i with
    | 0 => exact .inr ⟨_, rfl, rfl⟩
    | i + 1 => exact .inl (by simp)
noncomputable def rcId (xs : Array Value) : ByteArray := toStr (([.string { data := #[116, 49] }, .string { data := #[116, 49] }, .string { data := #[116, 50] }, .string { data := #[116, 51] }] : List Value).getD (0 + (nextR xs 0 4).toNat * 1) (Value.tuple { toList := [] }))
noncomputable def rcSub (xs : Array Value) : ByteArray := toStr (([.string { data := #[97, 110, 110] }, .string { data := #[98, 111, 98] }] : List Value).getD (0 + (nextR xs 1 2).toNat * 1) (Value.tuple { toList := [] }))
noncomputable def rcIss (xs : Array Value) : ByteArray := toStr (([.string { data := #[103, 97, 116, 101] }, .string { data := #[103, 97, 116, 101] }, .string { data := #[103, 97, 116, 101] }, .string { data := #[111, 116, 104, 101, 114] }] : List Value).getD (0 + (nextR xs 2 4).toNat * 1) (Value.tuple { toList := [] }))
noncomputable def rcPar (xs : Array Value) : ByteArray := toStr (([.string { data := #[] }, .string { data := #[] }, .string { data := #[] }, .string { data := #[116, 48] }, .string { data := #[116, 50] }] : List Value).getD (0 + (nextR xs 3 5).toNat * 1) (Value.tuple { toList := [] }))
noncomputable def rcFr (xs : Array Value) : Int := toInt (([.int .i64 0, .int .i64 50, .int .i64 100] : List Value).getD (0 + (nextR xs (scE xs 5) 3).toNat * 1) (Value.tuple { toList := [] }))
noncomputable def rcDt (xs : Array Value) : Int := toInt (([.int .i64 1, .int .i64 50, .int .i64 100, .int .i64 200] : List Value).getD (0 + (nextR xs (scE xs 5 + 1) 4).toNat * 1) (Value.tuple { toList := [] }))
noncomputable def rcTo (xs : Array Value) : Int := IntKind.i64.wrap (rcFr xs + rcDt xs)
noncomputable def drP (xs : Array Value) (at_ n : Int) (Z : Prop) : Prop := cond (decide (0 ≤ nextR xs at_ n) && decide (nextR xs at_ n < n)) (cond ((0 + (nextR xs at_ n).toNat * 1).blt n.toNat) Z False) False
noncomputable def atP (xs : Array Value) (d : Int) (Z : Prop) : Prop := cond (decide (0 ≤ d) && decide (d ≤ 1000000) && true && true && true && allInts xs) Z False
noncomputable def rcP (xs : Array Value) (ka : Int) (e : Bool) (Z : Prop) : Prop :=
  cond (allInts xs) (drP xs 0 4 (cond (allInts xs) (drP xs 1 2 (cond (allInts xs) (drP xs 2 4 (cond (allInts xs) (drP xs 3 5 (cond (decide (nextR xs 4 5 = ka) && allInts xs) (cond (decide (nextR xs 5 5 = 0) == e && allInts xs)
    (cond (okLe (scD e (scL xs 5))) (atP xs (scE xs 5) (drP xs (scE xs 5) 3 (atP xs (scE xs 5 + 1) (drP xs (scE xs 5 + 1) 4 Z)))) False) False) False)) False)) False)) False)) False
def blkA : Value → Nat
  | .agg ⟨[_, _, _, _, .slice (some a) _ _, _, _, _]⟩ => a.block
  | _ => 0
theorem rc0N (xs : Array Value) (Q : Value → Option Obj → Option Obj → Prop) : ffn Tryz.prog (SQc 0 true) [] 3000 [] Tryz.f7 [.pointer (some ⟨0, 0, none⟩)] (h1 (strm xs 0)) (fun v h => Q v (h.get 0) (h.get (blkA v))) =
    rcP xs 0 true (Q (.agg ⟨[.string (rcId xs), .string (rcSub xs), .string (rcIss xs), .string (rcPar xs), .slice none 0 0, leV (scD true (scL xs 5)), .int .i64 (rcFr xs), .int .i64 (rcTo xs)]⟩) (some (strm xs (scE xs 5 + 1 + 1))) (some (strm xs (scE xs 5 + 1 + 1)))) := by kernel_rfl
theorem rc0S (xs : Array Value) (Q : Value → Option Obj → Option Obj → Prop) : ffn Tryz.prog (SQc 0 false) [] 3000 [] Tryz.f7 [.pointer (some ⟨0, 0, none⟩)] (h1 (strm xs 0)) (fun v h => Q v (h.get 0) (h.get (blkA v))) =
    rcP xs 0 false (Q (.agg ⟨[.string (rcId xs), .string (rcSub xs), .string (rcIss xs), .string (rcPar xs), .slice none 0 0, leV (scD false (scL xs 5)), .int .i64 (rcFr xs), .int .i64 (rcTo xs)]⟩) (some (strm xs (scE xs 5 + 1 + 1))) (some (strm xs (scE xs 5 + 1 + 1)))) := by kernel_rfl
theorem rc1N (xs : Array Value) (Q : Value → Option Obj → Option Obj → Prop) : ffn Tryz.prog (SQc 1 true) [] 3000 [] Tryz.f7 [.pointer (some ⟨0, 0, none⟩)] (h1 (strm xs 0)) (fun v h => Q v (h.get 0) (h.get (blkA v))) =
    rcP xs 1 true (Q (.agg ⟨[.string (rcId xs), .string (rcSub xs), .string (rcIss xs), .string (rcPar xs), .slice none 0 0, leV (scD true (scL xs 5)), .int .i64 (rcFr xs), .int .i64 (rcTo xs)]⟩) (some (strm xs (scE xs 5 + 1 + 1))) (some (strm xs (scE xs 5 + 1 + 1)))) := by kernel_rfl
theorem rc1S (xs : Array Value) (Q : Value → Option Obj → Option Obj → Prop) : ffn Tryz.prog (SQc 1 false) [] 3000 [] Tryz.f7 [.pointer (some ⟨0, 0, none⟩)] (h1 (strm xs 0)) (fun v h => Q v (h.get 0) (h.get (blkA v))) =
    rcP xs 1 false (Q (.agg ⟨[.string (rcId xs), .string (rcSub xs), .string (rcIss xs), .string (rcPar xs), .slice none 0 0, leV (scD false (scL xs 5)), .int .i64 (rcFr xs), .int .i64 (rcTo xs)]⟩) (some (strm xs (scE xs 5 + 1 + 1))) (some (strm xs (scE xs 5 + 1 + 1)))) := by kernel_rfl
theorem rc2N (xs : Array Value) (Q : Value → Option Obj → Option Obj → Prop) : ffn Tryz.prog (SQc 2 true) [] 3000 [] Tryz.f7 [.pointer (some ⟨0, 0, none⟩)] (h1 (strm xs 0)) (fun v h => Q v (h.get 0) (h.get (blkA v))) =
    rcP xs 2 true (Q (.agg ⟨[.string (rcId xs), .string (rcSub xs), .string (rcIss xs), .string (rcPar xs), .slice (some ⟨6, 0, none⟩) 1 1, leV (scD true (scL xs 5)), .int .i64 (rcFr xs), .int .i64 (rcTo xs)]⟩) (some (strm xs (scE xs 5 + 1 + 1))) (some (.cells ⟨[scp [115, 104, 111, 112]]⟩ 9 (0, 0)))) := by kernel_rfl
theorem rc2S (xs : Array Value) (Q : Value → Option Obj → Option Obj → Prop) : ffn Tryz.prog (SQc 2 false) [] 3000 [] Tryz.f7 [.pointer (some ⟨0, 0, none⟩)] (h1 (strm xs 0)) (fun v h => Q v (h.get 0) (h.get (blkA v))) =
    rcP xs 2 false (Q (.agg ⟨[.string (rcId xs), .string (rcSub xs), .string (rcIss xs), .string (rcPar xs), .slice (some ⟨6, 0, none⟩) 1 1, leV (scD false (scL xs 5)), .int .i64 (rcFr xs), .int .i64 (rcTo xs)]⟩) (some (strm xs (scE xs 5 + 1 + 1))) (some (.cells ⟨[scp [115, 104, 111, 112]]⟩ 9 (0, 0)))) := by kernel_rfl
theorem rc3N (xs : Array Value) (Q : Value → Option Obj → Option Obj → Prop) : ffn Tryz.prog (SQc 3 true) [] 3000 [] Tryz.f7 [.pointer (some ⟨0, 0, none⟩)] (h1 (strm xs 0)) (fun v h => Q v (h.get 0) (h.get (blkA v))) =
    rcP xs 3 true (Q (.agg ⟨[.string (rcId xs), .string (rcSub xs), .string (rcIss xs), .string (rcPar xs), .slice (some ⟨7, 0, none⟩) 2 2, leV (scD true (scL xs 5)), .int .i64 (rcFr xs), .int .i64 (rcTo xs)]⟩) (some (strm xs (scE xs 5 + 1 + 1))) (some (.cells ⟨[scp [109, 97, 112, 115], scp [115, 104, 111, 112]]⟩ 9 (0, 0)))) := by kernel_rfl
theorem rc3S (xs : Array Value) (Q : Value → Option Obj → Option Obj → Prop) : ffn Tryz.prog (SQc 3 false) [] 3000 [] Tryz.f7 [.pointer (some ⟨0, 0, none⟩)] (h1 (strm xs 0)) (fun v h => Q v (h.get 0) (h.get (blkA v))) =
    rcP xs 3 false (Q (.agg ⟨[.string (rcId xs), .string (rcSub xs), .string (rcIss xs), .string (rcPar xs), .slice (some ⟨7, 0, none⟩) 2 2, leV (scD false (scL xs 5)), .int .i64 (rcFr xs), .int .i64 (rcTo xs)]⟩) (some (strm xs (scE xs 5 + 1 + 1))) (some (.cells ⟨[scp [109, 97, 112, 115], scp [115, 104, 111, 112]]⟩ 9 (0, 0)))) := by kernel_rfl
theorem rc4N (xs : Array Value) (Q : Value → Option Obj → Option Obj → Prop) : ffn Tryz.prog (SQc 4 true) [] 3000 [] Tryz.f7 [.pointer (some ⟨0, 0, none⟩)] (h1 (strm xs 0)) (fun v h => Q v (h.get 0) (h.get (blkA v))) =
    rcP xs 4 true (Q (.agg ⟨[.string (rcId xs), .string (rcSub xs), .string (rcIss xs), .string (rcPar xs), .slice (some ⟨8, 0, none⟩) 1 1, leV (scD true (scL xs 5)), .int .i64 (rcFr xs), .int .i64 (rcTo xs)]⟩) (some (strm xs (scE xs 5 + 1 + 1))) (some (.cells ⟨[scp [109, 97, 112, 115]]⟩ 9 (0, 0)))) := by kernel_rfl
theorem rc4S (xs : Array Value) (Q : Value → Option Obj → Option Obj → Prop) : ffn Tryz.prog (SQc 4 false) [] 3000 [] Tryz.f7 [.pointer (some ⟨0, 0, none⟩)] (h1 (strm xs 0)) (fun v h => Q v (h.get 0) (h.get (blkA v))) =
    rcP xs 4 false (Q (.agg ⟨[.string (rcId xs), .string (rcSub xs), .string (rcIss xs), .string (rcPar xs), .slice (some ⟨8, 0, none⟩) 1 1, leV (scD false (scL xs 5)), .int .i64 (rcFr xs), .int .i64 (rcTo xs)]⟩) (some (strm xs (scE xs 5 + 1 + 1))) (some (.cells ⟨[scp [109, 97, 112, 115]]⟩ 9 (0, 0)))) := by kernel_rfl
theorem someRC : Tryz.f7.body.isSome = true := by kernel_rfl
theorem drP_ok (zs : List Int) {d n : Int} (h0 : 0 ≤ d) (h1 : d ≤ 1000000) (hn : 1 ≤ n) (hn2 : n ≤ 100) {Z : Prop} (hZ : Z) : drP (intsV zs) d n Z := by
  have hb := (nextR_spec zs n d h0 h1 hn (by omega)).1
  refine need_mk (by simp [hb.1, hb.2]) (need_mk ?_ hZ)
  rw [Nat.blt, Nat.ble_eq]; omega
theorem atP_ok (zs : List Int) {d : Int} (h0 : 0 ≤ d) (h1 : d ≤ 1000000) {Z : Prop} (hZ : Z) : atP (intsV zs) d Z :=
  need_mk (by rw [allInts_intsV]; simp [h0, h1]) hZ
theorem scE_in (zs : List Int) {d : Int} (h0 : 0 ≤ d) (h1 : d ≤ 100000) : d + 1 ≤ scE (intsV zs) d ∧ scE (intsV zs) d ≤ d + 5 := by
  have hb := (nextR_spec zs 5 d h0 (by omega) (by omega) (by omega)).1
  unfold scE; omega
/-- Scopes that are right: none, or some of the nine, at most four. -/
def okScs : Value → Bool
  | .slice none 0 0 => true
  | .func (.yield 0) ⟨vs⟩ ⟨[]⟩ => fourR vs && Nat.ble 1 vs.length
  | _ => false
theorem rsW_ok (zs : List Int) {d : Int} (h0 : 0 ≤ d) (h1 : d ≤ 100000) : okScs (rsW (intsV zs) d) = true := by
  have hb := (nextR_spec zs 5 d h0 (by omega) (by omega) (by omega)).1
  unfold rsW
  by_cases h : nextR (intsV zs) d 5 = 0
  · rw [if_pos h]; rfl
  · rw [if_neg h]
    show (fourR (scL (intsV zs) d) && Nat.ble 1 (scL (intsV zs) d).length) = true
    have hl : (scL (intsV zs) d).length = (nextR (intsV zs) d 5).toNat := by unfold scL; rw [List.length_map, drawnS_len]
    rw [scL_four zs h0 h1, hl, Nat.ble_eq_true_of_le (by omega)]
    rfl
theorem okScs_le {v : Value} (h : okScs v = true) : okLe v = true := by
  unfold okScs at h
  split at h
  · rfl
  · rw [Bool.and_eq_true] at h
    show (nineR _ && _) = true
    rw [(fourR_nine h.1).1, h.2]; rfl
  · cases h
theorem rcP_ok (zs : List Int) {ka : Int} {e : Bool} (hk : nextR (intsV zs) 4 5 = ka) (he : decide (nextR (intsV zs) 5 5 = 0) = e) {Z : Prop} (hZ : Z) : rcP (intsV zs) ka e Z := by
  have hi := allInts_intsV zs
  have h5 := scE_in zs (d := 5) (by omega) (by omega)
  have hs := rsW_ok zs (d := 5) (by omega) (by omega)
  have ew : rsW (intsV zs) 5 = scD e (scL (intsV zs) 5) := by
    subst he
    unfold rsW
    by_cases h : nextR (intsV zs) 5 5 = 0
    · rw [if_pos h, decide_eq_true h]; rfl
    · rw [if_neg h, decide_eq_false h]; rfl
  rw [ew] at hs
  refine need_mk hi (drP_ok zs (by omega) (by omega) (by omega) (by omega) (need_mk hi (drP_ok zs (by omega) (by omega) (by omega) (by omega) (need_mk hi (drP_ok zs (by omega) (by omega) (by omega) (by omega) (need_mk hi (drP_ok zs (by omega) (by omega) (by omega) (by omega)
    (need_mk (by rw [hk, hi]; simp) (need_mk (by rw [he, hi]; simp) (need_mk (okScs_le hs) (atP_ok zs (by omega) (by omega) (drP_ok zs (by omega) (by omega) (by omega) (by omega) (atP_ok zs (by omega) (by omega) (drP_ok zs (by omega) (by omega) (by omega) (by omega) hZ)))))))))))))) 
/-- Whom claims are for, as they are drawn. -/
noncomputable def wAud (r : Int) : Value := if r = 2 then fz ⟨[scp [115, 104, 111, 112]]⟩ else if r = 3 then fz ⟨[scp [109, 97, 112, 115], scp [115, 104, 111, 112]]⟩ else if r = 4 then fz ⟨[scp [109, 97, 112, 115]]⟩ else .slice none 0 0
noncomputable def rcV (xs : Array Value) : Value := .agg ⟨[.string (rcId xs), .string (rcSub xs), .string (rcIss xs), .string (rcPar xs), wAud (nextR xs 4 5), leV (rsW xs 5), .int .i64 (rcFr xs), .int .i64 (rcTo xs)]⟩
theorem rc_fn (zs : List Int) : FnOK 1 Tryz.prog 7 ⟨[.pointer (some ⟨0, 0, none⟩)]⟩ (Ev.h1 (strm (intsV zs) 0)) (fun u g => u = rcV (intsV zs) ∧ g.get 0 = some (strm (intsV zs) (scE (intsV zs) 5 + 1 + 1))) := by
  have hb := (nextR_spec zs 5 4 (by omega) (by omega) (by omega) (by omega)).1
  have hc : nextR (intsV zs) 4 5 = 0 ∨ nextR (intsV zs) 4 5 = 1 ∨ nextR (intsV zs) 4 5 = 2 ∨ nextR (intsV zs) 4 5 = 3 ∨ nextR (intsV zs) 4 5 = 4 := by omega
  by_cases h : nextR (intsV zs) 5 5 = 0
  · have he := decide_eq_true h
    have ew : rsW (intsV zs) 5 = .slice none 0 0 := by rw [rsW, if_pos h]
    rcases hc with hk | hk | hk | hk | hk
    · refine (FnOK.ftree (p := 1) (SQc_ok 0 true) mixed Tryz.func7 someRC (rc0N (intsV zs) (fun v o _ => v = rcV (intsV zs) ∧ o = some (strm (intsV zs) (scE (intsV zs) 5 + 1 + 1)))) (rcP_ok zs hk he ⟨?_, rfl⟩)).mono fun v g q => q
      simp only [rcV, hk, ew]; rfl
    · refine (FnOK.ftree (p := 1) (SQc_ok 1 true) mixed Tryz.func7 someRC (rc1N (intsV zs) (fun v o _ => v = rcV (intsV zs) ∧ o = some (strm (intsV zs) (scE (intsV zs) 5 + 1 + 1)))) (rcP_ok zs hk he ⟨?_, rfl⟩)).mono fun v g q => q
      simp only [rcV, hk, ew]; rfl
    · refine FnOK.weak1 ((FnOK.ftree (p := 1) (SQc_ok 2 true) mixed Tryz.func7 someRC (rc2N (intsV zs) (fun v o q => v = .agg ⟨[.string (rcId (intsV zs)), .string (rcSub (intsV zs)), .string (rcIss (intsV zs)), .string (rcPar (intsV zs)), .slice (some ⟨6, 0, none⟩) 1 1, leV (scD true (scL (intsV zs) 5)), .int .i64 (rcFr (intsV zs)), .int .i64 (rcTo (intsV zs))]⟩ ∧ o = some (strm (intsV zs) (scE (intsV zs) 5 + 1 + 1)) ∧ q = some (.cells ⟨[[115, 104, 111, 112]].map scp⟩ 9 (0, 0)))) (rcP_ok zs hk he ⟨rfl, rfl, rfl⟩)).mono ?_)
      rintro v g ⟨rfl, q0, hb⟩
      refine ⟨_, _, freezeA _ [[115, 104, 111, 112]] rfl hb, ?_, (del_ne (i := 0) (b := 6) (by decide)).trans q0⟩
      simp only [rcV, hk, ew]; rfl
    · refine FnOK.weak1 ((FnOK.ftree (p := 1) (SQc_ok 3 true) mixed Tryz.func7 someRC (rc3N (intsV zs) (fun v o q => v = .agg ⟨[.string (rcId (intsV zs)), .string (rcSub (intsV zs)), .string (rcIss (intsV zs)), .string (rcPar (intsV zs)), .slice (some ⟨7, 0, none⟩) 2 2, leV (scD true (scL (intsV zs) 5)), .int .i64 (rcFr (intsV zs)), .int .i64 (rcTo (intsV zs))]⟩ ∧ o = some (strm (intsV zs) (scE (intsV zs) 5 + 1 + 1)) ∧ q = some (.cells ⟨[[109, 97, 112, 115], [115, 104, 111, 112]].map scp⟩ 9 (0, 0)))) (rcP_ok zs hk he ⟨rfl, rfl, rfl⟩)).mono ?_)
      rintro v g ⟨rfl, q0, hb⟩
      refine ⟨_, _, freezeA _ [[109, 97, 112, 115], [115, 104, 111, 112]] rfl hb, ?_, (del_ne (i := 0) (b := 7) (by decide)).trans q0⟩
      simp only [rcV, hk, ew]; rfl
    · refine FnOK.weak1 ((FnOK.ftree (p := 1) (SQc_ok 4 true) mixed Tryz.func7 someRC (rc4N (intsV zs) (fun v o q => v = .agg ⟨[.string (rcId (intsV zs)), .string (rcSub (intsV zs)), .string (rcIss (intsV zs)), .string (rcPar (intsV zs)), .slice (some ⟨8, 0, none⟩) 1 1, leV (scD true (scL (intsV zs) 5)), .int .i64 (rcFr (intsV zs)), .int .i64 (rcTo (intsV zs))]⟩ ∧ o = some (strm (intsV zs) (scE (intsV zs) 5 + 1 + 1)) ∧ q = some (.cells ⟨[[109, 97, 112, 115]].map scp⟩ 9 (0, 0)))) (rcP_ok zs hk he ⟨rfl, rfl, rfl⟩)).mono ?_)
      rintro v g ⟨rfl, q0, hb⟩
      refine ⟨_, _, freezeA _ [[109, 97, 112, 115]] rfl hb, ?_, (del_ne (i := 0) (b := 8) (by decide)).trans q0⟩
      simp only [rcV, hk, ew]; rfl
  · have he := decide_eq_false h
    have ew : rsW (intsV zs) 5 = fz ⟨scL (intsV zs) 5⟩ := by rw [rsW, if_neg h]
    rcases hc with hk | hk | hk | hk | hk
    · refine (FnOK.ftree (p := 1) (SQc_ok 0 false) mixed Tryz.func7 someRC (rc0S (intsV zs) (fun v o _ => v = rcV (intsV zs) ∧ o = some (strm (intsV zs) (scE (intsV zs) 5 + 1 + 1)))) (rcP_ok zs hk he ⟨?_, rfl⟩)).mono fun v g q => q
      simp only [rcV, hk, ew]; rfl
    · refine (FnOK.ftree (p := 1) (SQc_ok 1 false) mixed Tryz.func7 someRC (rc1S (intsV zs) (fun v o _ => v = rcV (intsV zs) ∧ o = some (strm (intsV zs) (scE (intsV zs) 5 + 1 + 1)))) (rcP_ok zs hk he ⟨?_, rfl⟩)).mono fun v g q => q
      simp only [rcV, hk, ew]; rfl
    · refine FnOK.weak1 ((FnOK.ftree (p := 1) (SQc_ok 2 false) mixed Tryz.func7 someRC (rc2S (intsV zs) (fun v o q => v = .agg ⟨[.string (rcId (intsV zs)), .string (rcSub (intsV zs)), .string (rcIss (intsV zs)), .string (rcPar (intsV zs)), .slice (some ⟨6, 0, none⟩) 1 1, leV (scD false (scL (intsV zs) 5)), .int .i64 (rcFr (intsV zs)), .int .i64 (rcTo (intsV zs))]⟩ ∧ o = some (strm (intsV zs) (scE (intsV zs) 5 + 1 + 1)) ∧ q = some (.cells ⟨[[115, 104, 111, 112]].map scp⟩ 9 (0, 0)))) (rcP_ok zs hk he ⟨rfl, rfl, rfl⟩)).mono ?_)
      rintro v g ⟨rfl, q0, hb⟩
      refine ⟨_, _, freezeA _ [[115, 104, 111, 112]] rfl hb, ?_, (del_ne (i := 0) (b := 6) (by decide)).trans q0⟩
      simp only [rcV, hk, ew]; rfl
    · refine FnOK.weak1 ((FnOK.ftree (p := 1) (SQc_ok 3 false) mixed Tryz.func7 someRC (rc3S (intsV zs) (fun v o q => v = .agg ⟨[.string (rcId (intsV zs)), .string (rcSub (intsV zs)), .string (rcIss (intsV zs)), .string (rcPar (intsV zs)), .slice (some ⟨7, 0, none⟩) 2 2, leV (scD false (scL (intsV zs) 5)), .int .i64 (rcFr (intsV zs)), .int .i64 (rcTo (intsV zs))]⟩ ∧ o = some (strm (intsV zs) (scE (intsV zs) 5 + 1 + 1)) ∧ q = some (.cells ⟨[[109, 97, 112, 115], [115, 104, 111, 112]].map scp⟩ 9 (0, 0)))) (rcP_ok zs hk he ⟨rfl, rfl, rfl⟩)).mono ?_)
      rintro v g ⟨rfl, q0, hb⟩
      refine ⟨_, _, freezeA _ [[109, 97, 112, 115], [115, 104, 111, 112]] rfl hb, ?_, (del_ne (i := 0) (b := 7) (by decide)).trans q0⟩
      simp only [rcV, hk, ew]; rfl
    · refine FnOK.weak1 ((FnOK.ftree (p := 1) (SQc_ok 4 false) mixed Tryz.func7 someRC (rc4S (intsV zs) (fun v o q => v = .agg ⟨[.string (rcId (intsV zs)), .string (rcSub (intsV zs)), .string (rcIss (intsV zs)), .string (rcPar (intsV zs)), .slice (some ⟨8, 0, none⟩) 1 1, leV (scD false (scL (intsV zs) 5)), .int .i64 (rcFr (intsV zs)), .int .i64 (rcTo (intsV zs))]⟩ ∧ o = some (strm (intsV zs) (scE (intsV zs) 5 + 1 + 1)) ∧ q = some (.cells ⟨[[109, 97, 112, 115]].map scp⟩ 9 (0, 0)))) (rcP_ok zs hk he ⟨rfl, rfl, rfl⟩)).mono ?_)
      rintro v g ⟨rfl, q0, hb⟩
      refine ⟨_, _, freezeA _ [[109, 97, 112, 115]] rfl hb, ?_, (del_ne (i := 0) (b := 8) (by decide)).trans q0⟩
      simp only [rcV, hk, ew]; rfl
noncomputable def spRC (f : FuncId) (args : Array Value) (h : AH) : Option (Bool × Value × AH) :=
  cond (Nat.beq f 7) (match args with
    | ⟨[.pointer (some ⟨b, 0, none⟩)]⟩ => match h.get b with
      | some (.cells ⟨[.func (.yield 0) xs ⟨[]⟩, .int .i64 at_]⟩ t (0, 0)) =>
        some (Nat.beq t 25 && decide (at_ = 0) && allInts xs, .agg ⟨[.string (rcId xs), .string (rcSub xs), .string (rcIss xs), .string (rcPar xs), wAud (nextR xs 4 5), leV (rsW xs 5), .int .i64 (rcFr xs), .int .i64 (rcTo xs)]⟩, h.set b (.cells ⟨[fz xs, .int .i64 (scE xs 5 + 1 + 1)]⟩ 25 (0, 0)))
      | _ => none
    | _ => none) none
theorem wAud_p1 (r : Int) : p1 (wAud r) = true := by
  unfold wAud
  split
  · rfl
  · split
    · rfl
    · split <;> rfl
theorem leV_p1 (xs : Array Value) (d : Int) : p1 (leV (rsW xs d)) = true := by
  unfold rsW
  split <;> rfl
theorem spRC_ok : SpOK spRC := by
  intro f args h v h' hs
  unfold spRC at hs
  obtain ⟨hf, hs2⟩ := cond_some hs
  clear hs
  have := Nat.eq_of_beq_eq_true hf
  subst this
  split at hs2
  · split at hs2
    · rename_i xs at_ t hg
      injection hs2 with hs
      injection hs with hb hs
      injection hs with hv hh
      subst hv hh
      simp only [Bool.and_eq_true, decide_eq_true_eq] at hb
      obtain ⟨⟨b0, b1⟩, b3⟩ := hb
      have b0 := Nat.eq_of_beq_eq_true b0
      subst b0 b1
      obtain ⟨zs, rfl⟩ := intsV_of_all b3
      refine ⟨?_, Nat.le_refl _⟩
      refine FnOK.ref (cs := ⟨[fz (intsV zs), .int .i64 0]⟩) (cs' := ⟨[fz (intsV zs), .int .i64 (scE (intsV zs) 5 + 1 + 1)]⟩) (args := []) (rc_fn zs) rfl (by simp [p1, fz]) (by simp [p1, fz]) ?_ hg
      have e1 := wAud_p1 (nextR (intsV zs) 4 5)
      have e2 := leV_p1 (intsV zs) 5
      unfold rcV
      simp only [p3, p2, List.all_cons, List.all_nil, e1, e2]
      rfl
    · cases hs2
  · cases hs2
end Go.Proofs.YtklednomnpghcaaGreatDoor
