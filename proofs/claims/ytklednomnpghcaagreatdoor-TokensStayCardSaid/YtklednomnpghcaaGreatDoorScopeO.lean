/-
  The reference's 'LeastOf' as a specification; plain laws about rising lists.
-/
import Derived.Test.YtklednomnpghcaaGreatDoorScopeN
import Derived.Laws.Strings
namespace ScopeLaw
open Go.Lib
theorem rise_eq : ∀ (a b : List (List UInt8)), a.Pairwise (below fun x y => x ≤ y) → b.Pairwise (below fun x y => x ≤ y) → (∀ x, x ∈ a ↔ x ∈ b) → a = b
  | [], [], _, _, _ => rfl
  | [], y :: b, _, _, h => absurd ((h y).2 (by simp)) (by simp)
  | x :: a, [], _, _, h => absurd ((h x).1 (by simp)) (by simp)
  | x :: a, y :: b, ha, hb, h => by
    obtain ⟨a1, a2⟩ := List.pairwise_cons.1 ha
    obtain ⟨b1, b2⟩ := List.pairwise_cons.1 hb
    have e : x = y := by
      have h1 := (h x).1 (by simp)
      have h2 := (h y).2 (by simp)
      rcases List.mem_cons.1 h1 with q | q
      · exact q
      · rcases List.mem_cons.1 h2 with q2 | q2
        · exact q2.symm
        · exact List.le_antisymm (a1 y q2).1 (b1 x q).1
    subst e
    have := rise_eq a b a2 b2 (fun z => ⟨fun hz => by
      rcases List.mem_cons.1 ((h z).1 (List.mem_cons_of_mem _ hz)) with q | q
      · subst q; exact absurd rfl (a1 z hz).2
      · exact q, fun hz => by
      rcases List.mem_cons.1 ((h z).2 (List.mem_cons_of_mem _ hz)) with q | q
      · subst q; exact absurd rfl (b1 z hz).2
      · exact q⟩)
    rw [this]
theorem rising_rise (l : List (List UInt8)) : (rising l).Pairwise (below fun x y => x ≤ y) := cut_rise ord_le (sorted l)
theorem rising_self {l : List (List UInt8)} (h : l.Pairwise (below fun x y => x ≤ y)) : rising l = l := rise_eq _ _ (rising_rise l) h (rising_mem l)
theorem leastR_rise (l : List (List UInt8)) : (leastR l).Pairwise (below fun x y => x ≤ y) := (rising_rise l).filter _
/-- In order before or behind. -/
theorem least_comm (l : List (List UInt8)) : rising (leastL covB l) = leastR l := by
  refine rise_eq _ _ (rising_rise _) (leastR_rise l) fun x => ?_
  rw [rising_mem, leastR, mem_least, mem_least, rising_mem]
  exact ⟨fun ⟨h1, h2⟩ => ⟨h1, fun h hh => h2 h ((rising_mem l h).1 hh)⟩, fun ⟨h1, h2⟩ => ⟨h1, fun h hh => h2 h ((rising_mem l h).2 hh)⟩⟩
theorem least_idem (l : List (List UInt8)) : leastR (leastR l) = leastR l := by
  have h1 : rising (leastR l) = leastR l := rising_self (leastR_rise l)
  show leastL covB (rising (leastR l)) = leastR l
  rw [h1]
  refine rise_eq _ _ ((leastR_rise l).filter _) (leastR_rise l) fun x => ?_
  rw [mem_least]
  exact ⟨fun h => h.1, fun h => ⟨h, fun y hy => (mem_least.1 h).2 y (mem_least.1 hy).1⟩⟩
theorem leastR_ne {l : List (List UInt8)} (hl : ∀ x ∈ l, x ∈ ten) (hne : l ≠ []) : leastR l ≠ [] := by
  intro q
  match l, hne with
  | x :: l, _ =>
    have := leastR_forth hl
    rw [q] at this
    simp [allC, anyC] at this
end ScopeLaw
namespace Go.Proofs.YtklednomnpghcaaGreatDoor
open Go.Ev Go.RowKit ScopeLaw

theorem someOv : Tryz.f65.body.isSome = true := by kernel_rfl
theorem someLO : Tryz.f29.body.isSome = true := by kernel_rfl
theorem over_runs : (ten.all fun a => ten.all fun b => isB (covB a b) (arun Tryz.prog SI.cfg 1000 Tryz.f65 [scp a, scp b] h0)) = true := by kernel_rfl
theorem over_call {a b : List UInt8} (ha : a ∈ ten) (hb : b ∈ ten) (h : AH) : CallOK Tryz.prog 65 ⟨[scp a, scp b]⟩ h (.bool (covB a b)) h := by
  obtain ⟨h', hr⟩ := isB_eq (List.all_eq_true.1 (List.all_eq_true.1 over_runs a ha) b hb)
  exact FnOK.pure ((arun_ok SI_ok mixed Tryz.func65 someOv hr).mono fun _ _ q => q.1) rfl rfl h
def spOv (f : FuncId) (args : Array Value) (h : AH) : Option (Bool × Value × AH) :=
  cond (Nat.beq f 65) (match args with
    | ⟨[.string a, .string b]⟩ => some (inTen a && inTen b, .bool (covS a b), h)
    | _ => none) none
def SO1 : SC := ⟨idn, spOv, true, true⟩
def fO : Value := .func (.func 64) ⟨[]⟩ ⟨[.pointer (some ⟨0, 0, none⟩)]⟩
theorem spOv_ok : SpOK spOv := by
  intro f args h v h' hs
  unfold spOv at hs
  obtain ⟨hf, hs2⟩ := cond_some hs
  clear hs
  have := Nat.eq_of_beq_eq_true hf
  subst this
  split at hs2
  · injection hs2 with hs
    injection hs with hb hs
    injection hs with hv hh
    subst hv hh
    rw [Bool.and_eq_true] at hb
    rw [scp_un, scp_un]
    exact ⟨over_call (inTen_ok hb.1) (inTen_ok hb.2) h, Nat.le_refl _⟩
  · cases hs2
theorem SO1_ok : SO1.cfg.OK Tryz.prog := spOv_ok.cfg
theorem ixO (vs : List Value) (s : ByteArray) (n i : Int) (B : List Value → AH → Prop) (Q : AExit → List Value → AH → Prop) : (once 1 Tryz.prog SO1 [] noHooks 100 19 [0, 1, 7, 8] [] [4] [] (oneLoop (codeOf Tryz.f112) 2) [fz ⟨vs⟩, fO, .int .i64 n, .int .i64 i] (hbx s) B Q) = bif decide (i < n) then bif decide (0 ≤ i) && decide (i < ((Array.mk vs).size : Int)) && true then (Array.mk vs).toList.getD i.toNat (Value.tuple { toList := [] }) = Value.string (toStr ((Array.mk vs).toList.getD i.toNat (Value.tuple { toList := [] }))) ∧ bif !(toStr ((Array.mk vs).toList.getD i.toNat (Value.tuple { toList := [] }))).toList == s.toList then bif inTen (toStr ((Array.mk vs).toList.getD i.toNat (Value.tuple { toList := [] }))) && inTen s then bif covS (toStr ((Array.mk vs).toList.getD i.toNat (Value.tuple { toList := [] }))) s then Q AExit.ret [Value.int IntKind.i64 i] { next := 1, low := 1, blocks := [(0, Obj.cells { toList := [Value.string s] } 9 (0, 0))] } else B [Value.func (Fn.yield 0) { toList := vs } { toList := [] }, Value.func (Fn.func 64) { toList := [] } { toList := [Value.pointer (some { block := 0, off := 0 })] }, Value.int IntKind.i64 n, Value.int IntKind.i64 (IntKind.i64.wrap (i + 1))] { next := 1, low := 1, blocks := [(0, Obj.cells { toList := [Value.string s] } 9 (0, 0))] } else False else B [Value.func (Fn.yield 0) { toList := vs } { toList := [] }, Value.func (Fn.func 64) { toList := [] } { toList := [Value.pointer (some { block := 0, off := 0 })] }, Value.int IntKind.i64 n, Value.int IntKind.i64 (IntKind.i64.wrap (i + 1))] { next := 1, low := 1, blocks := [(0, Obj.cells { toList := [Value.string s] } 9 (0, 0))] } else False else Q (AExit.exit 0) [Value.func (Fn.yield 2) { toList := [] } { toList := [] }] { next := 1, low := 1, blocks := [(0, Obj.cells { toList := [Value.string s] } 9 (0, 0))] } := by kernel_rfl
theorem ixOf (vs : List Value) (s : ByteArray) (b : Bool) (r : Int) (C : List Value → AH → Prop) (Q : Value → Option Obj → Prop) : (tfn Tryz.prog SO1 [] (hook1 2 (hookLS 1 19 [0, 1, 7, 8] [] [4] (fun vals h K => C vals h ∧ cond b (K .ret [.int .i64 r] (hbx s)) (K (.exit 0) [anyV] (hbx s))))) 200 [] Tryz.f112 [fz ⟨vs⟩, fO] (hbx s) (fun v h => Q v (h.get 0))) = (C [Value.func (Fn.yield 0) { toList := vs } { toList := [] }, Value.func (Fn.func 64) { toList := [] } { toList := [Value.pointer (some { block := 0, off := 0 })] }, Value.int IntKind.i64 ((Array.mk vs).size : Int), Value.int IntKind.i64 0] { next := 1, low := 1, blocks := [(0, Obj.cells { toList := [Value.string s] } 9 (0, 0))] } ∧ bif b then Q (Value.int IntKind.i64 r) (some (Obj.cells { toList := [Value.string s] } 9 (0, 0))) else Q (Value.int IntKind.i64 (-1)) (some (Obj.cells { toList := [Value.string s] } 9 (0, 0)))) := by kernel_rfl

theorem ix_fnO {vs : List Value} (hv : tenR vs = true) {s : ByteArray} (hs : inTen s = true) : FnOK 1 Tryz.prog 112 ⟨[fz ⟨vs⟩, fO]⟩ (hbx s) (fun v g => v = .int .i64 (idxP (gI s) vs 0) ∧ g.get 0 = some (.cells ⟨[.string s]⟩ 9 (0, 0))) := by
  have hlen := ten_len hv
  have hC : LSpec 1 Tryz.prog 19 (oneLoop (codeOf Tryz.f112) 2) (hookLS 1 19 [0, 1, 7, 8] [] [4] (fun vals h K => (vals = [fz ⟨vs⟩, fO, .int .i64 (vs.length : Int), .int .i64 0] ∧ h = hbx s) ∧ cond (decide (idxP (gI s) vs 0 ≥ 0)) (K .ret [.int .i64 (idxP (gI s) vs 0)] (hbx s)) (K (.exit 0) [anyV] (hbx s)))) := by
    refine hook_ok (G := []) (L := noHooks) (f := 100) (sameX := []) SO1_ok mixed (by decide) (loops_none _ _ _ _) ?_
    rintro vals h K ⟨⟨rfl, rfl⟩, hK⟩
    refine ⟨vs.length + 1, ?_⟩
    exact ix_loop (gI s) (F := iter 1 Tryz.prog SO1 [] noHooks 100 19 [0, 1, 7, 8] [] [4] [] (oneLoop (codeOf Tryz.f112) 2)) (K := K)
      (fun m hK => (ixO vs s _ _ _ K).mpr (pick_f (by simp) hK))
      (fun m i hi hg hK => by
        simp only [gI, Bool.and_eq_true] at hg
        exact (ixO vs s _ _ _ K).mpr (pick_t (by simp; omega) (need_mk (in_v hi) ⟨(ten_at hv hi).2, pick_t hg.1 (need_mk (by rw [Bool.and_eq_true]; exact ⟨(ten_at hv hi).1, hs⟩) (pick_t hg.2 hK))⟩)))
      (fun m i hi hg hK => by
        have ew : IntKind.i64.wrap ((i : Int) + 1) = ((i + 1 : Nat) : Int) := by rw [wrap_id _ (by omega) (by omega)]; rfl
        refine (ixO vs s _ _ _ K).mpr (pick_t (by simp; omega) (need_mk (in_v hi) ⟨(ten_at hv hi).2, ?_⟩))
        rw [ew]
        cases hne : !((toStr (vs.getD i (Value.tuple { toList := [] }))).toList == s.toList) with
        | true =>
          simp only [gI, hne, Bool.true_and] at hg
          exact pick_t hne (need_mk (by rw [Bool.and_eq_true]; exact ⟨(ten_at hv hi).1, hs⟩) (pick_f hg hK))
        | false => exact pick_f hne hK)
      rfl vs.length 0 (by simp) hK
  refine FnOK.ttree SO1_ok mixed Tryz.func112 some112 (loops_one one112 hC) (ixOf vs s _ _ (fun vals h => vals = [fz ⟨vs⟩, fO, .int .i64 (vs.length : Int), .int .i64 0] ∧ h = hbx s) (fun v o => v = .int .i64 (idxP (gI s) vs 0) ∧ o = some (.cells ⟨[.string s]⟩ 9 (0, 0)))) ?_
  refine ⟨⟨rfl, rfl⟩, ?_⟩
  have hm1 : decide (idxP (gI s) vs 0 ≥ 0) = false → idxP (gI s) vs 0 = -1 := idxP_none (gI s) vs 0 (Int.le_refl 0)
  cases hd : decide (idxP (gI s) vs 0 ≥ 0) with
  | true => exact ⟨rfl, rfl⟩
  | false => exact ⟨by rw [hm1 hd], rfl⟩
def spIxO (f : FuncId) (args : Array Value) (h : AH) : Option (Bool × Value × AH) :=
  cond (Nat.beq f 112) (match args with
    | ⟨[.func (.yield 0) ⟨vs⟩ ⟨[]⟩, .func (.func k) ⟨[]⟩ ⟨[.pointer (some ⟨b, 0, none⟩)]⟩]⟩ => match h.get b with
      | some (.cells ⟨[.string s]⟩ t (0, 0)) => cond (Nat.beq k 64) (some (tenR vs && inTen s && Nat.beq t 9, .int .i64 (idxP (gI s) vs 0), h)) none
      | _ => none
    | _ => none) none
noncomputable def SO2 : SC := ⟨idn, spOr spIxO (spOr spSort spCut), true, true⟩
theorem spIxO_ok : SpOK spIxO := by
  intro f args h v h' hs
  unfold spIxO at hs
  obtain ⟨hf, hs2⟩ := cond_some hs
  clear hs
  have := Nat.eq_of_beq_eq_true hf
  subst this
  split at hs2
  · split at hs2
    · rename_i s t hg
      obtain ⟨hk, hs⟩ := cond_some hs2
      have := Nat.eq_of_beq_eq_true hk
      subst this
      injection hs with hs
      injection hs with hb hs
      injection hs with hv hh
      subst hv hh
      rw [Bool.and_eq_true, Bool.and_eq_true] at hb
      have := Nat.eq_of_beq_eq_true hb.2
      subst this
      exact ⟨box_call hg rfl rfl (ix_fnO hb.1.1 hb.1.2), Nat.le_refl _⟩
    · cases hs2
  · cases hs2
theorem SO2_ok : SO2.cfg.OK Tryz.prog := (spIxO_ok.or (spSort_ok.or spCut_ok)).cfg
theorem loN (vs : List Value) (n i : Int) (B : List Value → AH → Prop) (Q : AExit → List Value → AH → Prop) : (once 0 Tryz.prog SO2 [] noHooks 300 25 [0, 3, 6, 7, 8] [0] [3] [0] (oneLoop (codeOf Tryz.f29) 3) [fz ⟨vs⟩, .slice none 0 0, fz ⟨vs⟩, .int .i64 n, .int .i64 i] h0 B Q) = bif decide (i < n) then bif decide (0 ≤ i) && decide (i < ((Array.mk vs).size : Int)) && true then (Array.mk vs).toList.getD i.toNat (Value.tuple { toList := [] }) = Value.string (toStr ((Array.mk vs).toList.getD i.toNat (Value.tuple { toList := [] }))) ∧ bif tenR vs && inTen (toStr ((Array.mk vs).toList.getD i.toNat (Value.tuple { toList := [] }))) && true then bif !decide (idxP (gI (toStr ((Array.mk vs).toList.getD i.toNat (Value.tuple { toList := [] })))) vs 0 ≥ 0) then NoNames (Obj.cells { toList := [Value.string (toStr ((Array.mk vs).toList.getD i.toNat (Value.tuple { toList := [] })))] } 9 (0, 0)) ∧ B [Value.func (Fn.yield 0) { toList := vs } { toList := [] }, Value.slice (some { block := 0, off := 0 }) 1 1, Value.func (Fn.yield 0) { toList := vs } { toList := [] }, Value.int IntKind.i64 n, Value.int IntKind.i64 (IntKind.i64.wrap (i + 1))] { next := 1, low := 1, blocks := [(0, Obj.cells { toList := [Value.string (toStr ((Array.mk vs).toList.getD i.toNat (Value.tuple { toList := [] })))] } 9 (0, 0))] } else B [Value.func (Fn.yield 0) { toList := vs } { toList := [] }, Value.slice none 0 0, Value.func (Fn.yield 0) { toList := vs } { toList := [] }, Value.int IntKind.i64 n, Value.int IntKind.i64 (IntKind.i64.wrap (i + 1))] { next := 0, low := 0, blocks := [] } else False else False else Q (AExit.exit 0) [Value.slice none 0 0] { next := 0, low := 0, blocks := [] } := by kernel_rfl
theorem loB (vs cs : List Value) (n i : Int) (k : Nat) (B : List Value → AH → Prop) (Q : AExit → List Value → AH → Prop) : (once 0 Tryz.prog SO2 [] noHooks 300 25 [0, 3, 6, 7, 8] [0] [3] [0] (oneLoop (codeOf Tryz.f29) 3) [fz ⟨vs⟩, .slice (some ⟨0, 0, none⟩) k k, fz ⟨vs⟩, .int .i64 n, .int .i64 i] (blk cs) B Q) = bif decide (i < n) then bif decide (0 ≤ i) && decide (i < ((Array.mk vs).size : Int)) && true then (Array.mk vs).toList.getD i.toNat (Value.tuple { toList := [] }) = Value.string (toStr ((Array.mk vs).toList.getD i.toNat (Value.tuple { toList := [] }))) ∧ bif tenR vs && inTen (toStr ((Array.mk vs).toList.getD i.toNat (Value.tuple { toList := [] }))) && true then bif !decide (idxP (gI (toStr ((Array.mk vs).toList.getD i.toNat (Value.tuple { toList := [] })))) vs 0 ≥ 0) then bif (k + 1).ble k then False else bif (k + 1).ble 9223372036854775807 && ((k + 1) * 16).ble 140737488355328 then bif (0 + k * 1).ble (Array.mk cs).size && true && true then NoNames (Obj.cells { toList := List.take (k * 1) (List.drop 0 (Array.mk cs).toList) ++ [Value.string (toStr ((Array.mk vs).toList.getD i.toNat (Value.tuple { toList := [] })))] } 9 (0, 0)) ∧ B [Value.func (Fn.yield 0) { toList := vs } { toList := [] }, Value.slice (some { block := 0, off := 0 }) (k + 1) (k + 1), Value.func (Fn.yield 0) { toList := vs } { toList := [] }, Value.int IntKind.i64 n, Value.int IntKind.i64 (IntKind.i64.wrap (i + 1))] { next := 1, low := 1, blocks := [(0, Obj.cells { toList := List.take (k * 1) (List.drop 0 (Array.mk cs).toList) ++ [Value.string (toStr ((Array.mk vs).toList.getD i.toNat (Value.tuple { toList := [] })))] } 9 (0, 0))] } else False else False else NoNames (Obj.cells { toList := cs } 9 (0, 0)) ∧ B [Value.func (Fn.yield 0) { toList := vs } { toList := [] }, Value.slice (some { block := 0, off := 0 }) k k, Value.func (Fn.yield 0) { toList := vs } { toList := [] }, Value.int IntKind.i64 n, Value.int IntKind.i64 (IntKind.i64.wrap (i + 1))] { next := 1, low := 1, blocks := [(0, Obj.cells { toList := cs } 9 (0, 0))] } else False else False else NoNames (Obj.cells { toList := cs } 9 (0, 0)) ∧ Q (AExit.exit 0) [Value.slice (some { block := 0, off := 0 }) k k] { next := 1, low := 1, blocks := [(0, Obj.cells { toList := cs } 9 (0, 0))] } := by kernel_rfl
theorem lofN (vs cs : List Value) (k : Nat) (C : List Value → AH → Prop) (Q : Value → Option Obj → Prop) : (tfn Tryz.prog SO2 [] (hook1 3 (hookLS 0 25 [0, 3, 6, 7, 8] [0] [3] (fun vals h K => C vals h ∧ K (.exit 0) [.slice none 0 0] h0))) 2000 [] Tryz.f29 [fz ⟨vs⟩] h0 (fun v h => Q v (h.get (blkOf v)))) = (C [Value.func (Fn.yield 0) { toList := vs } { toList := [] }, Value.slice none 0 0, Value.func (Fn.yield 0) { toList := vs } { toList := [] }, Value.int IntKind.i64 ((Array.mk vs).size : Int), Value.int IntKind.i64 0] { next := 0, low := 0, blocks := [] } ∧ Q (Value.slice none 0 0) none) := by kernel_rfl
theorem lofB (vs cs : List Value) (k : Nat) (C : List Value → AH → Prop) (Q : Value → Option Obj → Prop) : (tfn Tryz.prog SO2 [] (hook1 3 (hookLS 0 25 [0, 3, 6, 7, 8] [0] [3] (fun vals h K => C vals h ∧ K (.exit 0) [.slice (some ⟨0, 0, none⟩) k k] (blk cs)))) 2000 [] Tryz.f29 [fz ⟨vs⟩] h0 (fun v h => Q v (h.get (blkOf v)))) = (C [Value.func (Fn.yield 0) { toList := vs } { toList := [] }, Value.slice none 0 0, Value.func (Fn.yield 0) { toList := vs } { toList := [] }, Value.int IntKind.i64 ((Array.mk vs).size : Int), Value.int IntKind.i64 0] { next := 0, low := 0, blocks := [] } ∧ bif strR cs && cs.length.beq k then bif strR (sortC cs) && (sortC cs).length.beq k && k.ble k then Q (Value.slice (some { block := 0, off := 0 }) (cutN (sortC cs)) k) (some (Obj.cells { toList := cutC (sortC cs) } 9 (0, 0))) else False else False) := by kernel_rfl

/-- Those of a list that no other one covers, as they stand. -/
def foL (vs : List Value) : List Value → List ByteArray
  | [] => []
  | v :: l => cond (!anyV1 (gI (toStr v)) vs) (toStr v :: foL vs l) (foL vs l)
theorem lo_loop {vs : List Value} (hv : tenR vs = true) (K : AExit → List Value → AH → Prop) :
    ∀ (r i : Nat) (l : List ByteArray), i + r = vs.length → l.length ≤ i → K (.exit 0) [outV (l ++ foL vs (vs.drop i))] (outH (l ++ foL vs (vs.drop i))) →
      iter 0 Tryz.prog SO2 [] noHooks 300 25 [0, 3, 6, 7, 8] [0] [3] [0] (oneLoop (codeOf Tryz.f29) 3) (r + 1) [fz ⟨vs⟩, outV l, fz ⟨vs⟩, .int .i64 (vs.length : Int), .int .i64 (i : Int)] (outH l) K := by
  have hlen := ten_len hv
  intro r
  induction r with
  | zero =>
    intro i l h1 h2 h3
    rw [List.drop_eq_nil_of_le (by omega)] at h3
    simp only [foL, List.append_nil] at h3
    cases l with
    | nil => exact (loN vs _ _ _ K).mpr (pick_f (by simp; omega) h3)
    | cons k l => exact (loB vs _ _ _ _ _ K).mpr (pick_f (by simp; omega) ⟨nn_str (k :: l) _ _, h3⟩)
  | succ r ih =>
    intro i l h1 h2 h3
    have hi : i < vs.length := by omega
    obtain ⟨t1, t2⟩ := ten_at hv hi
    have e : (Array.mk vs).toList.getD (i : Int).toNat (Value.tuple { toList := [] }) = vs.getD i (Value.tuple { toList := [] }) := by simp
    have ew : IntKind.i64.wrap ((i : Int) + 1) = ((i + 1 : Nat) : Int) := by rw [wrap_id _ (by omega) (by omega)]; rfl
    have ea : (decide (idxP (gI (toStr (vs.getD i (Value.tuple { toList := [] })))) vs 0 ≥ 0)) = anyV1 (gI (toStr (vs.getD i (Value.tuple { toList := [] })))) vs := idxP_any _ _ _ (Int.le_refl 0)
    rw [drop_cons hi] at h3
    simp only [foL] at h3
    have hcnd : (tenR vs && inTen (toStr (vs.getD i (Value.tuple { toList := [] }))) && true) = true := by rw [hv, t1]; rfl
    cases l with
    | nil =>
      refine (loN vs _ _ _ K).mpr (pick_t (by simp; omega) (need_mk (in_v hi) ?_))
      rw [e, ew]
      refine ⟨t2, need_mk hcnd ?_⟩
      rw [ea]
      cases hc : (!anyV1 (gI (toStr (vs.getD i (Value.tuple { toList := [] })))) vs) with
      | true =>
        rw [hc] at h3
        have h4 := ih (i + 1) [toStr (vs.getD i (Value.tuple { toList := [] }))] (by omega) (by simp) (by simpa only [cond_true, List.nil_append, List.singleton_append] using h3)
        exact pick_t rfl ⟨nn_str [_] _ _, h4⟩
      | false =>
        rw [hc] at h3
        have h4 := ih (i + 1) [] (by omega) (by simp) (by simpa only [cond_false] using h3)
        exact pick_f rfl h4
    | cons k l =>
      have hlen2 : ((k :: l).map Value.string).length = (k :: l).length := List.length_map _
      have app : ∀ s : ByteArray, (k :: l).map Value.string ++ [.string s] = (k :: l ++ [s]).map Value.string := fun s => by simp
      have ev : ∀ s : ByteArray, outV (k :: l ++ [s]) = .slice (some ⟨0, 0, none⟩) ((k :: l).length + 1) ((k :: l).length + 1) := fun s => by simp [outV]
      refine (loB vs _ _ _ _ _ K).mpr (pick_t (by simp; omega) (need_mk (in_v hi) ?_))
      rw [e, ew]
      refine ⟨t2, need_mk hcnd ?_⟩
      rw [ea]
      cases hc : (!anyV1 (gI (toStr (vs.getD i (Value.tuple { toList := [] })))) vs) with
      | true =>
        rw [hc] at h3
        have h4 := ih (i + 1) (k :: l ++ [toStr (vs.getD i (Value.tuple { toList := [] }))]) (by omega) (by simp at h2 ⊢; omega) (by rw [List.append_assoc]; exact h3)
        refine pick_t rfl (pick_f (ble_ss _) (need_mk (ble_big _ (by omega)) (need_mk (ble_len hlen2) ?_)))
        rw [take_ok hlen2, app]
        rw [ev] at h4
        exact ⟨nn_str _ _ _, h4⟩
      | false =>
        rw [hc] at h3
        have h4 := ih (i + 1) (k :: l) (by omega) (by omega) (by simpa only [cond_false] using h3)
        exact pick_f rfl ⟨nn_str _ _ _, h4⟩
theorem lo_ex {vs : List Value} (hv : tenR vs = true) (K : AExit → List Value → AH → Prop) (hK : K (.exit 0) [outV (foL vs vs)] (outH (foL vs vs))) :
    ∃ n, iter 0 Tryz.prog SO2 [] noHooks 300 25 [0, 3, 6, 7, 8] [0] [3] [0] (oneLoop (codeOf Tryz.f29) 3) n [fz ⟨vs⟩, .slice none 0 0, fz ⟨vs⟩, .int .i64 (vs.length : Int), .int .i64 0] h0 K :=
  ⟨_, lo_loop hv K vs.length 0 [] (by omega) (Nat.zero_le _) hK⟩
theorem foL_un (vs : List Value) : ∀ l : List Value, (foL vs l).map (fun s => s.data.toList) = (l.map unS).filter fun s => !((vs.map unS).any fun h => decide (h ≠ s) && covB h s)
  | [] => rfl
  | v :: l => by
    have ih := foL_un vs l
    have e : anyV1 (gI (toStr v)) vs = (vs.map unS).any fun h => decide (h ≠ unS v) && covB h (unS v) := by
      unfold anyV1
      rw [List.any_map]
      congr 1
      funext w
      show (!((toStr w).toList == (toStr v).toList) && covS (toStr w) (toStr v)) = (decide (unS w ≠ unS v) && covB (unS w) (unS v))
      rw [ByteArray.toList_eq, ByteArray.toList_eq]
      unfold covS unS
      congr 1
      by_cases hq : (toStr w).data.toList = (toStr v).data.toList
      · simp [hq]
      · have hq2 : ¬ (toStr w).data = (toStr v).data := fun e => hq (by rw [e])
        simp [hq2]
    simp only [foL, List.map_cons, List.filter_cons, ← e, ← ih]
    cases anyV1 (gI (toStr v)) vs <;> rfl
theorem one29 : (loopAt (codeOf Tryz.f29) 3).length = 1 := by kernel_rfl
theorem lo_fn {vs : List Value} (hv : nineR vs = true) (h1 : 1 ≤ vs.length) : FnOK 0 Tryz.prog 29 ⟨[fz ⟨vs⟩]⟩ h0 (fun v _ => v = fz ⟨leastV vs⟩) := by
  obtain ⟨_, hin, h16, _⟩ := nineR_ok hv
  have ht := nineR_ten hv
  have hun : (foL vs vs).map (fun s => s.data.toList) = leastL covB (vs.map unS) := foL_un vs vs
  have hlv : leastV vs = (rising ((foL vs vs).map fun s => s.data.toList)).map scp := by rw [hun, least_comm]; rfl
  have hflen : (foL vs vs).length ≤ vs.length := by
    have := congrArg List.length hun
    rw [List.length_map] at this
    rw [this]
    have := List.length_filter_le (fun s => !((vs.map unS).any fun h => decide (h ≠ s) && covB h s)) (vs.map unS)
    simpa [leastL] using this
  have hC : ∀ out, foL vs vs = out → LSpec 0 Tryz.prog 25 (oneLoop (codeOf Tryz.f29) 3) (hookLS 0 25 [0, 3, 6, 7, 8] [0] [3] (fun vals h K => (vals = [fz ⟨vs⟩, .slice none 0 0, fz ⟨vs⟩, .int .i64 (vs.length : Int), .int .i64 0] ∧ h = h0) ∧ K (.exit 0) [outV out] (outH out))) := by
    rintro out rfl
    refine hook_ok (G := []) (L := noHooks) (f := 300) (sameX := [0]) SO2_ok mixed (by decide) (loops_none _ _ _ _) ?_
    rintro vals h K ⟨⟨rfl, rfl⟩, hK⟩
    exact lo_ex ht K hK
  cases ho : foL vs vs with
  | nil =>
    exfalso
    rw [ho] at hun
    have hne := leastR_ne (fun x hx => nine_ten x (hin x hx)) (l := vs.map unS) (by intro q; rw [List.map_eq_nil_iff] at q; rw [q] at h1; simp at h1)
    apply hne
    rw [← least_comm, ← hun]
    exact rising_nil
  | cons k q =>
    rw [ho] at hlv hflen
    have hF := FnOK.ttree SO2_ok mixed Tryz.func29 someLO (loops_one one29 (hC (k :: q) ho)) (lofB vs ((k :: q).map Value.string) (k :: q).length (fun vals h => vals = [fz ⟨vs⟩, .slice none 0 0, fz ⟨vs⟩, .int .i64 (vs.length : Int), .int .i64 0] ∧ h = h0)
      (fun v o => v = .slice (some ⟨0, 0, none⟩) (cutN (sortC ((k :: q).map Value.string))) (k :: q).length ∧ o = some (.cells ⟨cutC (sortC ((k :: q).map Value.string))⟩ 9 (0, 0)))) ⟨⟨rfl, rfl⟩, by
        have hk : (k :: q).length ≤ 1000 := by omega
        have hs : strR ((k :: q).map Value.string) = true := by
          rw [str_scp]
          exact strR_map (by rw [List.length_map]; exact hk)
        refine need_mk (by rw [hs, List.length_map, Nat.beq_refl]; rfl) (need_mk ?_ ⟨rfl, rfl⟩)
        rw [sortC_str (by rw [List.length_map]; exact hk), sortC_len, List.length_map, Nat.beq_refl]
        simp⟩
    refine FnOK.weak1 (hF.mono ?_)
    rintro v g ⟨rfl, hb⟩
    have e : (sortC ((k :: q).map Value.string)).map unS = srt (((k :: q).map Value.string).map unS) := un_map _
    have e2 : ((k :: q).map Value.string).map unS = (k :: q).map fun s => s.data.toList := by rw [List.map_map]; rfl
    have hb : g.get 0 = some (.cells ⟨(cut (srt ((k :: q).map fun s => s.data.toList))).map scp⟩ 9 (0, 0)) := by
      have : cutC (sortC ((k :: q).map Value.string)) = (cut (srt ((k :: q).map fun s => s.data.toList))).map scp := by unfold cutC; rw [e, e2]
      rw [← this]; exact hb
    have ec : cutN (sortC ((k :: q).map Value.string)) = (rising ((k :: q).map fun s => s.data.toList)).length := by unfold cutN; rw [e, e2]; rfl
    rw [hlv]
    refine ⟨_, _, freezeL (rising ((k :: q).map fun s => s.data.toList)) _ ec.symm ?_ ⟨_, rfl⟩ hb, rfl⟩
    rw [ec]
    have h1 := cut_le (srt ((k :: q).map fun s => s.data.toList))
    rw [srt_len, List.length_map] at h1
    exact h1
theorem lo_nil (c : Nat) : FnOK 0 Tryz.prog 29 ⟨[.slice none 0 c]⟩ h0 (fun v _ => v = .slice none 0 0) :=
  FnOK.ftree (p := 0) SO2_ok mixed Tryz.func29 someLO (R := []) (n := 3000) (G := []) (args := [.slice none 0 c]) (h := h0) (Q := fun v _ => v = .slice none 0 0) (T := Value.slice none 0 0 = Value.slice none 0 0) (by kernel_rfl) rfl
def spLo (f : FuncId) (args : Array Value) (h : AH) : Option (Bool × Value × AH) :=
  cond (Nat.beq f 29) (match args with
    | ⟨[.func (.yield 0) ⟨vs⟩ ⟨[]⟩]⟩ => some (nineR vs && Nat.ble 1 vs.length, fz ⟨leastV vs⟩, h)
    | ⟨[.slice none 0 _]⟩ => some (true, .slice none 0 0, h)
    | _ => none) none
theorem spLo_ok : SpOK spLo := by
  intro f args h v h' hs
  unfold spLo at hs
  obtain ⟨hf, hs2⟩ := cond_some hs
  clear hs
  have := Nat.eq_of_beq_eq_true hf
  subst this
  split at hs2
  · injection hs2 with hs
    injection hs with hb hs
    injection hs with hv hh
    subst hv hh
    rw [Bool.and_eq_true, Nat.ble_eq] at hb
    exact ⟨FnOK.pure (lo_fn hb.1 hb.2) rfl rfl h, Nat.le_refl _⟩
  · injection hs2 with hs
    injection hs with hb hs
    injection hs with hv hh
    subst hv hh
    exact ⟨FnOK.pure (lo_nil _) rfl rfl h, Nat.le_refl _⟩
  · cases hs2
end Go.Proofs.YtklednomnpghcaaGreatDoor
