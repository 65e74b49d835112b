/-
  'Rising', 'IndexFunc' with the closures that tell what covers, 'CheckScopes', 'coveredBy' as specifications.
-/
import Derived.Test.YtklednomnpghcaaGreatDoorScopeC
namespace Go.Proofs.YtklednomnpghcaaGreatDoor
open Go.Ev Go.RowKit ScopeLaw

noncomputable def SR : SC := ⟨idn, spOr spSort spCut, true, true⟩
def SD1 : SC := ⟨idn, spOr spIs spCv, true, true⟩
def hbx (s : ByteArray) : AH := ⟨1, 1, [(0, .cells ⟨[.string s]⟩ 9 (0, 0))]⟩
def fB : Value := .func (.func 118) ⟨[]⟩ ⟨[.pointer (some ⟨0, 0, none⟩)]⟩
def fI : Value := .func (.func 72) ⟨[]⟩ ⟨[.pointer (some ⟨0, 0, none⟩)]⟩
theorem SR_ok : SR.cfg.OK Tryz.prog := (spSort_ok.or spCut_ok).cfg
theorem SD1_ok : SD1.cfg.OK Tryz.prog := (spIs_ok.or spCv_ok).cfg
theorem ixB (vs : List Value) (s : ByteArray) (n i : Int) (B : List Value → AH → Prop) (Q : AExit → List Value → AH → Prop) : (once 1 Tryz.prog SD1 [] noHooks 100 19 [0, 1, 7, 8] [] [4] [] (oneLoop (codeOf Tryz.f112) 2) [fz ⟨vs⟩, fB, .int .i64 n, .int .i64 i] (hbx s) B Q) = bif decide (i < n) then bif decide (0 ≤ i) && decide (i < ((Array.mk vs).size : Int)) && true then (Array.mk vs).toList.getD i.toNat (Value.tuple { toList := [] }) = Value.string (toStr ((Array.mk vs).toList.getD i.toNat (Value.tuple { toList := [] }))) ∧ bif inTen (toStr ((Array.mk vs).toList.getD i.toNat (Value.tuple { toList := [] }))) && inTen s then bif covS (toStr ((Array.mk vs).toList.getD i.toNat (Value.tuple { toList := [] }))) s then Q AExit.ret [Value.int IntKind.i64 i] { next := 1, low := 1, blocks := [(0, Obj.cells { toList := [Value.string s] } 9 (0, 0))] } else B [Value.func (Fn.yield 0) { toList := vs } { toList := [] }, Value.func (Fn.func 118) { toList := [] } { toList := [Value.pointer (some { block := 0, off := 0 })] }, Value.int IntKind.i64 n, Value.int IntKind.i64 (IntKind.i64.wrap (i + 1))] { next := 1, low := 1, blocks := [(0, Obj.cells { toList := [Value.string s] } 9 (0, 0))] } else False else False else Q (AExit.exit 0) [Value.func (Fn.yield 2) { toList := [] } { toList := [] }] { next := 1, low := 1, blocks := [(0, Obj.cells { toList := [Value.string s] } 9 (0, 0))] } := by kernel_rfl
theorem ixBf (vs : List Value) (s : ByteArray) (b : Bool) (r : Int) (C : List Value → AH → Prop) (Q : Value → Option Obj → Prop) : (tfn Tryz.prog SD1 [] (hook1 2 (hookLS 1 19 [0, 1, 7, 8] [] [4] (fun vals h K => C vals h ∧ cond b (K .ret [.int .i64 r] (hbx s)) (K (.exit 0) [anyV] (hbx s))))) 200 [] Tryz.f112 [fz ⟨vs⟩, fB] (hbx s) (fun v h => Q v (h.get 0))) = (C [Value.func (Fn.yield 0) { toList := vs } { toList := [] }, Value.func (Fn.func 118) { toList := [] } { toList := [Value.pointer (some { block := 0, off := 0 })] }, Value.int IntKind.i64 ((Array.mk vs).size : Int), Value.int IntKind.i64 0] { next := 1, low := 1, blocks := [(0, Obj.cells { toList := [Value.string s] } 9 (0, 0))] } ∧ bif b then Q (Value.int IntKind.i64 r) (some (Obj.cells { toList := [Value.string s] } 9 (0, 0))) else Q (Value.int IntKind.i64 (-1)) (some (Obj.cells { toList := [Value.string s] } 9 (0, 0)))) := by kernel_rfl
theorem ixI (vs : List Value) (s : ByteArray) (n i : Int) (B : List Value → AH → Prop) (Q : AExit → List Value → AH → Prop) : (once 1 Tryz.prog SD1 [] noHooks 100 19 [0, 1, 7, 8] [] [4] [] (oneLoop (codeOf Tryz.f112) 2) [fz ⟨vs⟩, fI, .int .i64 n, .int .i64 i] (hbx s) B Q) = bif decide (i < n) then bif decide (0 ≤ i) && decide (i < ((Array.mk vs).size : Int)) && true then (Array.mk vs).toList.getD i.toNat (Value.tuple { toList := [] }) = Value.string (toStr ((Array.mk vs).toList.getD i.toNat (Value.tuple { toList := [] }))) ∧ bif !(toStr ((Array.mk vs).toList.getD i.toNat (Value.tuple { toList := [] }))).toList == s.toList then bif inTen (toStr ((Array.mk vs).toList.getD i.toNat (Value.tuple { toList := [] }))) && inTen s then bif covS (toStr ((Array.mk vs).toList.getD i.toNat (Value.tuple { toList := [] }))) s then Q AExit.ret [Value.int IntKind.i64 i] { next := 1, low := 1, blocks := [(0, Obj.cells { toList := [Value.string s] } 9 (0, 0))] } else B [Value.func (Fn.yield 0) { toList := vs } { toList := [] }, Value.func (Fn.func 72) { toList := [] } { toList := [Value.pointer (some { block := 0, off := 0 })] }, Value.int IntKind.i64 n, Value.int IntKind.i64 (IntKind.i64.wrap (i + 1))] { next := 1, low := 1, blocks := [(0, Obj.cells { toList := [Value.string s] } 9 (0, 0))] } else False else B [Value.func (Fn.yield 0) { toList := vs } { toList := [] }, Value.func (Fn.func 72) { toList := [] } { toList := [Value.pointer (some { block := 0, off := 0 })] }, Value.int IntKind.i64 n, Value.int IntKind.i64 (IntKind.i64.wrap (i + 1))] { next := 1, low := 1, blocks := [(0, Obj.cells { toList := [Value.string s] } 9 (0, 0))] } else False else Q (AExit.exit 0) [Value.func (Fn.yield 2) { toList := [] } { toList := [] }] { next := 1, low := 1, blocks := [(0, Obj.cells { toList := [Value.string s] } 9 (0, 0))] } := by kernel_rfl
theorem ixIf (vs : List Value) (s : ByteArray) (b : Bool) (r : Int) (C : List Value → AH → Prop) (Q : Value → Option Obj → Prop) : (tfn Tryz.prog SD1 [] (hook1 2 (hookLS 1 19 [0, 1, 7, 8] [] [4] (fun vals h K => C vals h ∧ cond b (K .ret [.int .i64 r] (hbx s)) (K (.exit 0) [anyV] (hbx s))))) 200 [] Tryz.f112 [fz ⟨vs⟩, fI] (hbx s) (fun v h => Q v (h.get 0))) = (C [Value.func (Fn.yield 0) { toList := vs } { toList := [] }, Value.func (Fn.func 72) { toList := [] } { toList := [Value.pointer (some { block := 0, off := 0 })] }, Value.int IntKind.i64 ((Array.mk vs).size : Int), Value.int IntKind.i64 0] { next := 1, low := 1, blocks := [(0, Obj.cells { toList := [Value.string s] } 9 (0, 0))] } ∧ bif b then Q (Value.int IntKind.i64 r) (some (Obj.cells { toList := [Value.string s] } 9 (0, 0))) else Q (Value.int IntKind.i64 (-1)) (some (Obj.cells { toList := [Value.string s] } 9 (0, 0)))) := by kernel_rfl
theorem cko (vs : List Value) (n i : Int) (B : List Value → AH → Prop) (Q : AExit → List Value → AH → Prop) : (once 0 Tryz.prog SD1 [] noHooks 100 18 [8, 9, 10] [] [] [] (oneLoop (codeOf Tryz.f32) 4) [fz ⟨vs⟩, .int .i64 n, .int .i64 i] h0 B Q) = bif decide (i < n) then bif decide (0 ≤ i) && decide (i < ((Array.mk vs).size : Int)) && true then (Array.mk vs).toList.getD i.toNat (Value.tuple { toList := [] }) = Value.string (toStr ((Array.mk vs).toList.getD i.toNat (Value.tuple { toList := [] }))) ∧ bif inTen (toStr ((Array.mk vs).toList.getD i.toNat (Value.tuple { toList := [] }))) then B [Value.func (Fn.yield 0) { toList := vs } { toList := [] }, Value.int IntKind.i64 n, Value.int IntKind.i64 (IntKind.i64.wrap (i + 1))] { next := 0, low := 0, blocks := [] } else False else False else Q (AExit.exit 0) [] { next := 0, low := 0, blocks := [] } := by kernel_rfl
theorem ckf (vs : List Value) (C : List Value → AH → Prop) (Q : Value → AH → Prop) : (tfn Tryz.prog SD1 [] (hook1 4 (hookLS 0 18 [8, 9, 10] [] [] (fun vals h K => C vals h ∧ K (.exit 0) [] h0))) 200 [] Tryz.f32 [fz ⟨vs⟩] h0 Q) = bif decide (((Array.mk vs).size : Int) > 50) then Q (Value.int IntKind.i64 2) { next := 0, low := 0, blocks := [] } else C [Value.func (Fn.yield 0) { toList := vs } { toList := [] }, Value.int IntKind.i64 ((Array.mk vs).size : Int), Value.int IntKind.i64 0] { next := 0, low := 0, blocks := [] } ∧ Q (Value.int IntKind.i64 0) { next := 0, low := 0, blocks := [] } := by kernel_rfl

theorem some69 : Tryz.f69.body.isSome = true := by kernel_rfl
theorem some112 : Tryz.f112.body.isSome = true := by kernel_rfl
theorem some32 : Tryz.f32.body.isSome = true := by kernel_rfl
theorem some82 : Tryz.f82.body.isSome = true := by kernel_rfl
theorem one112 : (loopAt (codeOf Tryz.f112) 2).length = 1 := by kernel_rfl
theorem one32 : (loopAt (codeOf Tryz.f32) 4).length = 1 := by kernel_rfl
/-- A list within memory that nobody writes any more. -/
theorem freezeL {p : Nat} {P : Program} {h : AH} {b : Nat} {t : TypeId} {fr : Nat × Nat} (l out : List (List UInt8)) {m c : Nat} (hm : l.length = m) (hmc : m ≤ c) (ho : l <+: out) (hb : h.get b = some (.cells ⟨out.map scp⟩ t fr)) :
    Weak p P #[.slice (some ⟨b, 0, none⟩) m c] h #[fz ⟨l.map scp⟩] (h.del b) := by
  obtain ⟨r, rfl⟩ := ho
  refine Weak.freeze (n := m) (cap := c) b 1 ⟨l.map scp⟩ hb ?_ (by simpa using hm) hmc (by simp; omega) ?_ ?_ rfl ?_
  · intro v hv
    obtain ⟨s, _, rfl⟩ := List.mem_map.1 (show v ∈ (l ++ r).map scp by simpa using hv)
    rfl
  · intro i x hx
    have hx : (l.map scp)[i]? = some x := by simpa using hx
    rw [List.getElem?_map] at hx
    obtain ⟨q, _, rfl⟩ := Option.map_eq_some_iff.1 hx
    rfl
  · intro i j x v hx hv
    have hx : (l.map scp)[i]? = some x := by simpa using hx
    have hi : i < (l.map scp).length := (List.getElem?_eq_some_iff.1 hx).1
    have hx0 : ((l ++ r).map scp)[i]? = some x := by rw [List.map_append, List.getElem?_append_left hi]; exact hx
    rw [List.getElem?_map] at hx
    obtain ⟨q, _, rfl⟩ := Option.map_eq_some_iff.1 hx
    match j, hv with
    | 0, hv =>
      have : scp q = v := by simpa [Value.cells, scp] using hv
      rw [← this, Nat.mul_one, Nat.add_zero]
      simpa using hx0
    | j + 1, hv => simp [Value.cells, scp] at hv
  · intro i
    match i with
    | 0 => exact .inr ⟨rfl, rfl⟩
    | i + 1 => exact .inl (by simp)

/-- The place of the first of a list that is so, from a place on; -1: none. -/
def idxP (g : ByteArray → Bool) : List Value → Int → Int
  | [], _ => -1
  | v :: l, i => cond (g (toStr v)) i (idxP g l (i + 1))
def anyV1 (g : ByteArray → Bool) (l : List Value) : Bool := l.any fun v => g (toStr v)
theorem idxP_any (g : ByteArray → Bool) : ∀ (l : List Value) (i : Int), 0 ≤ i → decide (idxP g l i ≥ 0) = anyV1 g l
  | [], i, _ => by simp [idxP, anyV1]
  | v :: l, i, h => by
    have ih := idxP_any g l (i + 1) (by omega)
    simp only [anyV1, List.any_cons] at ih ⊢
    cases hb : g (toStr v) with
    | true =>
      rw [show idxP g (v :: l) i = i by simp only [idxP, hb, cond_true]]
      simp [h]
    | false =>
      rw [show idxP g (v :: l) i = idxP g l (i + 1) by simp only [idxP, hb, cond_false], ih]
      rfl
theorem ix_loop (g : ByteArray → Bool) {F : Nat → List Value → AH → (AExit → List Value → AH → Prop) → Prop} {K : AExit → List Value → AH → Prop} {vs : List Value} {fv : Value} {H : AH} {n : Int}
    (hend : ∀ m, K (.exit 0) [anyV] H → F (m + 1) [fz ⟨vs⟩, fv, .int .i64 n, .int .i64 n] H K)
    (hyes : ∀ (m i : Nat), i < vs.length → g (toStr (vs.getD i (Value.tuple { toList := [] }))) = true → K .ret [.int .i64 i] H → F (m + 1) [fz ⟨vs⟩, fv, .int .i64 n, .int .i64 i] H K)
    (hno : ∀ (m i : Nat), i < vs.length → g (toStr (vs.getD i (Value.tuple { toList := [] }))) = false → F m [fz ⟨vs⟩, fv, .int .i64 n, .int .i64 ((i + 1 : Nat) : Int)] H K → F (m + 1) [fz ⟨vs⟩, fv, .int .i64 n, .int .i64 i] H K) (h1 : (vs.length : Int) = n) :
    ∀ (r i : Nat), (i : Int) + r = n → cond (decide (idxP g (vs.drop i) i ≥ 0)) (K .ret [.int .i64 (idxP g (vs.drop i) i)] H) (K (.exit 0) [anyV] H) → F (r + 1) [fz ⟨vs⟩, fv, .int .i64 n, .int .i64 i] H K := by
  intro r
  induction r with
  | zero =>
    intro i h4 h5
    have : (i : Int) = n := by omega
    rw [List.drop_eq_nil_of_le (by omega)] at h5
    rw [this]
    exact hend 0 h5
  | succ r ih =>
    intro i h4 h5
    have i1 : i < vs.length := by omega
    rw [drop_cons i1] at h5
    cases hb : g (toStr (vs.getD i (Value.tuple { toList := [] }))) with
    | true =>
      rw [show idxP g (vs.getD i (Value.tuple { toList := [] }) :: vs.drop (i + 1)) i = i by simp only [idxP, hb, cond_true]] at h5
      exact hyes _ i i1 hb (by simpa using h5)
    | false =>
      rw [show idxP g (vs.getD i (Value.tuple { toList := [] }) :: vs.drop (i + 1)) i = idxP g (vs.drop (i + 1)) (i + 1) by simp only [idxP, hb, cond_false]] at h5
      exact hno _ i i1 hb (ih (i + 1) (by omega) (by simpa using h5))
theorem ten_at {vs : List Value} (h : tenR vs = true) {i : Nat} (hi : i < vs.length) : inTen (toStr (vs.getD i (Value.tuple { toList := [] }))) = true ∧ vs.getD i (Value.tuple { toList := [] }) = .string (toStr (vs.getD i (Value.tuple { toList := [] }))) := by
  have e : vs.getD i (Value.tuple { toList := [] }) = vs[i] := by simp [List.getD, hi]
  rw [e]
  simp only [tenR, Bool.and_eq_true] at h
  have := List.all_eq_true.1 h.1 vs[i] (List.getElem_mem hi)
  unfold isTen at this
  split at this
  · rename_i s hs
    rw [hs]
    exact ⟨this, rfl⟩
  · cases this
theorem ten_len {vs : List Value} (h : tenR vs = true) : vs.length ≤ 50 := (tenR_ok h).2.2
theorem in_v {vs : List Value} {i : Nat} (h : i < vs.length) : (decide (0 ≤ (i : Int)) && decide ((i : Int) < ((Array.mk vs).size : Int)) && true) = true := by
  simp; omega
def gB (s x : ByteArray) : Bool := covS x s
def gI (s x : ByteArray) : Bool := !(x.toList == s.toList) && covS x s

theorem idxP_none (g : ByteArray → Bool) : ∀ (l : List Value) (i : Int), 0 ≤ i → decide (idxP g l i ≥ 0) = false → idxP g l i = -1
  | [], _, _, _ => rfl
  | v :: l, i, h, hd => by
    cases hb : g (toStr v) with
    | true =>
      rw [show idxP g (v :: l) i = i by simp only [idxP, hb, cond_true]] at hd
      simp at hd; omega
    | false =>
      rw [show idxP g (v :: l) i = idxP g l (i + 1) by simp only [idxP, hb, cond_false]] at hd ⊢
      exact idxP_none g l (i + 1) (by omega) hd
theorem ix_fnB {vs : List Value} (hv : tenR vs = true) {s : ByteArray} (hs : inTen s = true) : FnOK 1 Tryz.prog 112 ⟨[fz ⟨vs⟩, fB]⟩ (hbx s) (fun v g => v = .int .i64 (idxP (gB s) vs 0) ∧ g.get 0 = some (.cells ⟨[.string s]⟩ 9 (0, 0))) := by
  have hlen := ten_len hv
  have hC : LSpec 1 Tryz.prog 19 (oneLoop (codeOf Tryz.f112) 2) (hookLS 1 19 [0, 1, 7, 8] [] [4] (fun vals h K => (vals = [fz ⟨vs⟩, fB, .int .i64 (vs.length : Int), .int .i64 0] ∧ h = hbx s) ∧ cond (decide (idxP (gB s) vs 0 ≥ 0)) (K .ret [.int .i64 (idxP (gB s) vs 0)] (hbx s)) (K (.exit 0) [anyV] (hbx s)))) := by
    refine hook_ok (G := []) (L := noHooks) (f := 100) (sameX := []) SD1_ok mixed (by decide) (loops_none _ _ _ _) ?_
    rintro vals h K ⟨⟨rfl, rfl⟩, hK⟩
    refine ⟨vs.length + 1, ?_⟩
    exact ix_loop (gB s) (F := iter 1 Tryz.prog SD1 [] noHooks 100 19 [0, 1, 7, 8] [] [4] [] (oneLoop (codeOf Tryz.f112) 2)) (K := K)
      (fun m hK => (ixB vs s _ _ _ K).mpr (pick_f (by simp) hK))
      (fun m i hi hg hK => (ixB vs s _ _ _ K).mpr (pick_t (by simp; omega) (need_mk (in_v hi) ⟨(ten_at hv hi).2, need_mk (by rw [Bool.and_eq_true]; exact ⟨(ten_at hv hi).1, hs⟩) (pick_t hg hK)⟩)))
      (fun m i hi hg hK => (ixB vs s _ _ _ K).mpr (pick_t (by simp; omega) (need_mk (in_v hi) ⟨(ten_at hv hi).2, need_mk (by rw [Bool.and_eq_true]; exact ⟨(ten_at hv hi).1, hs⟩) (pick_f hg (by
        rw [show IntKind.i64.wrap ((i : Int) + 1) = ((i + 1 : Nat) : Int) by rw [wrap_id _ (by omega) (by omega)]; rfl]
        exact hK))⟩)))
      rfl vs.length 0 (by simp) hK
  refine FnOK.ttree SD1_ok mixed Tryz.func112 some112 (loops_one one112 hC) (ixBf vs s _ _ (fun vals h => vals = [fz ⟨vs⟩, fB, .int .i64 (vs.length : Int), .int .i64 0] ∧ h = hbx s) (fun v o => v = .int .i64 (idxP (gB s) vs 0) ∧ o = some (.cells ⟨[.string s]⟩ 9 (0, 0)))) ?_
  refine ⟨⟨rfl, rfl⟩, ?_⟩
  have hm1 : decide (idxP (gB s) vs 0 ≥ 0) = false → idxP (gB s) vs 0 = -1 := idxP_none (gB s) vs 0 (Int.le_refl 0)
  cases hd : decide (idxP (gB s) vs 0 ≥ 0) with
  | true => exact ⟨rfl, rfl⟩
  | false => exact ⟨by rw [hm1 hd], rfl⟩
theorem ix_fnI {vs : List Value} (hv : tenR vs = true) {s : ByteArray} (hs : inTen s = true) : FnOK 1 Tryz.prog 112 ⟨[fz ⟨vs⟩, fI]⟩ (hbx s) (fun v g => v = .int .i64 (idxP (gI s) vs 0) ∧ g.get 0 = some (.cells ⟨[.string s]⟩ 9 (0, 0))) := by
  have hlen := ten_len hv
  have hC : LSpec 1 Tryz.prog 19 (oneLoop (codeOf Tryz.f112) 2) (hookLS 1 19 [0, 1, 7, 8] [] [4] (fun vals h K => (vals = [fz ⟨vs⟩, fI, .int .i64 (vs.length : Int), .int .i64 0] ∧ h = hbx s) ∧ cond (decide (idxP (gI s) vs 0 ≥ 0)) (K .ret [.int .i64 (idxP (gI s) vs 0)] (hbx s)) (K (.exit 0) [anyV] (hbx s)))) := by
    refine hook_ok (G := []) (L := noHooks) (f := 100) (sameX := []) SD1_ok mixed (by decide) (loops_none _ _ _ _) ?_
    rintro vals h K ⟨⟨rfl, rfl⟩, hK⟩
    refine ⟨vs.length + 1, ?_⟩
    exact ix_loop (gI s) (F := iter 1 Tryz.prog SD1 [] noHooks 100 19 [0, 1, 7, 8] [] [4] [] (oneLoop (codeOf Tryz.f112) 2)) (K := K)
      (fun m hK => (ixI vs s _ _ _ K).mpr (pick_f (by simp) hK))
      (fun m i hi hg hK => by
        simp only [gI, Bool.and_eq_true] at hg
        exact (ixI vs s _ _ _ K).mpr (pick_t (by simp; omega) (need_mk (in_v hi) ⟨(ten_at hv hi).2, pick_t hg.1 (need_mk (by rw [Bool.and_eq_true]; exact ⟨(ten_at hv hi).1, hs⟩) (pick_t hg.2 hK))⟩)))
      (fun m i hi hg hK => by
        have ew : IntKind.i64.wrap ((i : Int) + 1) = ((i + 1 : Nat) : Int) := by rw [wrap_id _ (by omega) (by omega)]; rfl
        refine (ixI vs s _ _ _ K).mpr (pick_t (by simp; omega) (need_mk (in_v hi) ⟨(ten_at hv hi).2, ?_⟩))
        rw [ew]
        cases hne : !((toStr (vs.getD i (Value.tuple { toList := [] }))).toList == s.toList) with
        | true =>
          simp only [gI, hne, Bool.true_and] at hg
          exact pick_t hne (need_mk (by rw [Bool.and_eq_true]; exact ⟨(ten_at hv hi).1, hs⟩) (pick_f hg hK))
        | false => exact pick_f hne hK)
      rfl vs.length 0 (by simp) hK
  refine FnOK.ttree SD1_ok mixed Tryz.func112 some112 (loops_one one112 hC) (ixIf vs s _ _ (fun vals h => vals = [fz ⟨vs⟩, fI, .int .i64 (vs.length : Int), .int .i64 0] ∧ h = hbx s) (fun v o => v = .int .i64 (idxP (gI s) vs 0) ∧ o = some (.cells ⟨[.string s]⟩ 9 (0, 0)))) ?_
  refine ⟨⟨rfl, rfl⟩, ?_⟩
  have hm1 : decide (idxP (gI s) vs 0 ≥ 0) = false → idxP (gI s) vs 0 = -1 := idxP_none (gI s) vs 0 (Int.le_refl 0)
  cases hd : decide (idxP (gI s) vs 0 ≥ 0) with
  | true => exact ⟨rfl, rfl⟩
  | false => exact ⟨by rw [hm1 hd], rfl⟩
theorem one_look {o o' : Obj} {i : Nat} (h : Go.Ev.look i [(0, o)] = some o') : i = 0 ∧ o' = o := by
  unfold Go.Ev.look at h
  rcases cond_cases h with ⟨q1, q2⟩ | ⟨_, q2⟩
  · cases q2; exact ⟨(Nat.eq_of_beq_eq_true q1).symm, rfl⟩
  · cases q2
/-- A closure over one box, wherever the box lies. -/
theorem box_call {f k : FuncId} {vs : List Value} {y v : Value} {t : TypeId} {H : AH} {b : Nat} (hg : H.get b = some (.cells ⟨[y]⟩ t (0, 0))) (hy : p1 y = true) (hv : p3 v = true)
    (hF : FnOK 1 Tryz.prog f ⟨[fz ⟨vs⟩, .func (.func k) ⟨[]⟩ ⟨[.pointer (some ⟨0, 0, none⟩)]⟩]⟩ ⟨1, 1, [(0, .cells ⟨[y]⟩ t (0, 0))]⟩ (fun u g => u = v ∧ g.get 0 = some (.cells ⟨[y]⟩ t (0, 0)))) :
    CallOK Tryz.prog f ⟨[fz ⟨vs⟩, .func (.func k) ⟨[]⟩ ⟨[.pointer (some ⟨b, 0, none⟩)]⟩]⟩ H v H := by
  refine FnOK.reads (r := [(b, 0)]) (small := [fz ⟨vs⟩, .func (.func k) ⟨[]⟩ ⟨[.pointer (some ⟨0, 0, none⟩)]⟩]) (bl := [(0, .cells ⟨[y]⟩ t (0, 0))]) ?_ ?_ ?_ ?_ (hF.mono ?_) hv
  · simp [renOk, renB, invB, eqO, Nat.blt, Nat.ble]
  · simp [ren2s, ren2, renL, ren1, ren0, renB, fz, p1]
  · intro i o ho
    have : i = 0 ∧ o = .cells ⟨[y]⟩ t (0, 0) := one_look ho
    obtain ⟨rfl, rfl⟩ := this
    exact ⟨b, by simp, hg⟩
  · intro i o ho
    obtain ⟨rfl, rfl⟩ := one_look ho
    exact ⟨_, _, _, rfl, by simpa using hy⟩
  · rintro u g ⟨rfl, h2⟩
    refine ⟨rfl, fun i o ho => ?_⟩
    obtain ⟨rfl, rfl⟩ := one_look ho
    exact h2
def spIx (f : FuncId) (args : Array Value) (h : AH) : Option (Bool × Value × AH) :=
  cond (Nat.beq f 112) (match args with
    | ⟨[.func (.yield 0) ⟨vs⟩ ⟨[]⟩, .func (.func k) ⟨[]⟩ ⟨[.pointer (some ⟨b, 0, none⟩)]⟩]⟩ => match h.get b with
      | some (.cells ⟨[.string s]⟩ t (0, 0)) => cond (Nat.beq k 118) (some (tenR vs && inTen s && Nat.beq t 9, .int .i64 (idxP (gB s) vs 0), h))
        (cond (Nat.beq k 72) (some (tenR vs && inTen s && Nat.beq t 9, .int .i64 (idxP (gI s) vs 0), h)) none)
      | _ => none
    | _ => none) none
theorem spIx_ok : SpOK spIx := by
  intro f args h v h' hs
  unfold spIx at hs
  obtain ⟨hf, hs2⟩ := cond_some hs
  clear hs
  have := Nat.eq_of_beq_eq_true hf
  subst this
  split at hs2
  · split at hs2
    · rename_i s t hg
      rcases cond_cases hs2 with ⟨hk, hs⟩ | ⟨_, hs2⟩
      · have := Nat.eq_of_beq_eq_true hk
        subst this
        injection hs with hs
        injection hs with hb hs
        injection hs with hv hh
        subst hv hh
        rw [Bool.and_eq_true, Bool.and_eq_true] at hb
        have := Nat.eq_of_beq_eq_true hb.2
        subst this
        exact ⟨box_call hg rfl rfl (ix_fnB hb.1.1 hb.1.2), Nat.le_refl _⟩
      · obtain ⟨hk, hs⟩ := cond_some hs2
        have := Nat.eq_of_beq_eq_true hk
        subst this
        injection hs with hs
        injection hs with hb hs
        injection hs with hv hh
        subst hv hh
        rw [Bool.and_eq_true, Bool.and_eq_true] at hb
        have := Nat.eq_of_beq_eq_true hb.2
        subst this
        exact ⟨box_call hg rfl rfl (ix_fnI hb.1.1 hb.1.2), Nat.le_refl _⟩
    · cases hs2
  · cases hs2

theorem ck_loop {vs : List Value} (hv : tenR vs = true) (K : AExit → List Value → AH → Prop) (hK : K (.exit 0) [] h0) : ∀ (r i : Nat), i + r = vs.length →
    ∃ R, iter 0 Tryz.prog SD1 [] noHooks 100 18 [8, 9, 10] [] [] [] (oneLoop (codeOf Tryz.f32) 4) R [fz ⟨vs⟩, .int .i64 (vs.length : Int), .int .i64 (i : Int)] h0 K := by
  have hlen := ten_len hv
  have key : ∀ (r i : Nat), i + r = vs.length → iter 0 Tryz.prog SD1 [] noHooks 100 18 [8, 9, 10] [] [] [] (oneLoop (codeOf Tryz.f32) 4) (r + 1) [fz ⟨vs⟩, .int .i64 (vs.length : Int), .int .i64 (i : Int)] h0 K := by
    intro r
    induction r with
    | zero =>
      intro i hi
      exact (cko _ _ _ _ K).mpr (pick_f (by simp; omega) hK)
    | succ r ih =>
      intro i hi
      have hi2 : i < vs.length := by omega
      refine (cko _ _ _ _ K).mpr (pick_t (by simp; omega) (need_mk (in_v hi2) ⟨(ten_at hv hi2).2, need_mk (ten_at hv hi2).1 ?_⟩))
      rw [show IntKind.i64.wrap ((i : Int) + 1) = ((i + 1 : Nat) : Int) by rw [wrap_id _ (by omega) (by omega)]; rfl]
      exact ih (i + 1) (by omega)
  exact fun r i hi => ⟨_, key r i hi⟩
theorem ck_fn {vs : List Value} (hv : tenR vs = true) : FnOK 0 Tryz.prog 32 ⟨[fz ⟨vs⟩]⟩ h0 (fun v _ => v = .int .i64 0) := by
  have hlen := ten_len hv
  have hC : LSpec 0 Tryz.prog 18 (oneLoop (codeOf Tryz.f32) 4) (hookLS 0 18 [8, 9, 10] [] [] (fun vals h K => (vals = [fz ⟨vs⟩, .int .i64 (vs.length : Int), .int .i64 0] ∧ h = h0) ∧ K (.exit 0) [] h0)) := by
    refine hook_ok (G := []) (L := noHooks) (f := 100) (sameX := []) SD1_ok mixed (by decide) (loops_none _ _ _ _) ?_
    rintro vals h K ⟨⟨rfl, rfl⟩, hK⟩
    exact ck_loop hv K hK vs.length 0 (by simp)
  refine FnOK.ttree SD1_ok mixed Tryz.func32 some32 (loops_one one32 hC) (ckf vs (fun vals h => vals = [fz ⟨vs⟩, .int .i64 (vs.length : Int), .int .i64 0] ∧ h = h0) (fun v _ => v = .int .i64 0)) ?_
  exact pick_f (by simp; omega) ⟨⟨rfl, rfl⟩, rfl⟩
def spCk (f : FuncId) (args : Array Value) (h : AH) : Option (Bool × Value × AH) :=
  cond (Nat.beq f 32) (match args with
    | ⟨[.func (.yield 0) ⟨vs⟩ ⟨[]⟩]⟩ => some (tenR vs, .int .i64 0, h)
    | _ => none) none
theorem spCk_ok : SpOK spCk := by
  intro f args h v h' hs
  unfold spCk at hs
  obtain ⟨hf, hs2⟩ := cond_some hs
  clear hs
  have := Nat.eq_of_beq_eq_true hf
  subst this
  split at hs2
  · injection hs2 with hs
    injection hs with hb hs
    injection hs with hv hh
    subst hv hh
    exact ⟨FnOK.pure (ck_fn hb) rfl rfl h, Nat.le_refl _⟩
  · cases hs2

def SD2 : SC := ⟨idn, spIx, true, true⟩
theorem SD2_ok : SD2.cfg.OK Tryz.prog := spIx_ok.cfg
theorem cbf (vs : List Value) (s : ByteArray) (Q : Value → Prop) : ffn Tryz.prog SD2 [] 1000 [] Tryz.f82 [fz ⟨vs⟩, .string s] h0 (fun v _ => Q v) =
    cond (tenR vs && inTen s && true) (Q (.bool (decide (idxP (gB s) vs 0 ≥ 0)))) False := by kernel_rfl
theorem cb_fn {vs : List Value} (hv : tenR vs = true) {s : ByteArray} (hs : inTen s = true) : FnOK 0 Tryz.prog 82 ⟨[fz ⟨vs⟩, .string s]⟩ h0 (fun v _ => v = .bool (anyV1 (gB s) vs)) := by
  refine FnOK.ftree SD2_ok mixed Tryz.func82 some82 (cbf vs s (fun v => v = .bool (anyV1 (gB s) vs))) (need_mk (by rw [hv, hs]; rfl) ?_)
  rw [idxP_any _ _ _ (Int.le_refl 0)]
def spCb (f : FuncId) (args : Array Value) (h : AH) : Option (Bool × Value × AH) :=
  cond (Nat.beq f 82) (match args with
    | ⟨[.func (.yield 0) ⟨vs⟩ ⟨[]⟩, .string s]⟩ => some (tenR vs && inTen s, .bool (anyV1 (gB s) vs), h)
    | _ => none) none
theorem spCb_ok : SpOK spCb := by
  intro f args h v h' hs
  unfold spCb at hs
  obtain ⟨hf, hs2⟩ := cond_some hs
  clear hs
  have := Nat.eq_of_beq_eq_true hf
  subst this
  split at hs2
  · injection hs2 with hs
    injection hs with hb hs
    injection hs with hv hh
    subst hv hh
    rw [Bool.and_eq_true] at hb
    exact ⟨FnOK.pure (cb_fn hb.1 hb.2) rfl rfl h, Nat.le_refl _⟩
  · cases hs2
end Go.Proofs.YtklednomnpghcaaGreatDoor
