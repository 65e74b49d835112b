/-
  'slices.Index' and 'slices.Contains' for strings as specifications.
-/
import Derived.Test.YtfjfdemnnhfmoaaGreatDoorEqual
namespace Go.Proofs.YtfjfdemnnhfmoaaGreatDoor
open Go.Ev Go.RowKit

/-- The place of a string in a list, from a place on; -1: none. -/
def idxS (s : ByteArray) : List Value → Int → Int
  | [], _ => -1
  | v :: l, i => cond (s.toList == (toStr v).toList) i (idxS s l (i + 1))
def hasS (l : List Value) (s : ByteArray) : Bool := l.any fun v => s.toList == (toStr v).toList
theorem idxS_has (s : ByteArray) : ∀ (l : List Value) (i : Int), 0 ≤ i → decide (idxS s l i ≥ 0) = hasS l s
  | [], i, _ => by simp [idxS, hasS]
  | v :: l, i, h => by
    have ih := idxS_has s l (i + 1) (by omega)
    simp only [hasS, List.any_cons] at ih ⊢
    cases hb : (s.toList == (toStr v).toList) with
    | true =>
      rw [show idxS s (v :: l) i = i by simp only [idxS, hb, cond_true]]
      simp [h]
    | false =>
      rw [show idxS s (v :: l) i = idxS s l (i + 1) by simp only [idxS, hb, cond_false], ih]
      rfl
theorem ixo (xs : List Value) (s : ByteArray) (n i : Int) (B : List Value → AH → Prop) (Q : AExit → List Value → AH → Prop) :
    once 0 Tryz.prog SQ [] noHooks 100 19 [0, 1, 7, 8] [] [4] [] (oneLoop (codeOf Tryz.f129) 2) [fz ⟨xs⟩, .string s, .int .i64 n, .int .i64 i] h0 B Q =
    cond (decide (i < n)) (cond (decide (0 ≤ i) && decide (i < ((Array.mk xs).size : Int)) && true)
      ((Array.mk xs).toList.getD i.toNat (Value.tuple { toList := [] }) = Value.string (toStr ((Array.mk xs).toList.getD i.toNat (Value.tuple { toList := [] }))) ∧
        cond (s.toList == (toStr ((Array.mk xs).toList.getD i.toNat (Value.tuple { toList := [] }))).toList) (Q .ret [.int .i64 i] h0) (B [fz ⟨xs⟩, .string s, .int .i64 n, .int .i64 (IntKind.i64.wrap (i + 1))] h0)) False) (Q (.exit 0) [anyV] h0) := by kernel_rfl
theorem ix_loop {F : Nat → List Value → AH → (AExit → List Value → AH → Prop) → Prop} {K : AExit → List Value → AH → Prop} {xs : List Value} {s : ByteArray} {n : Int}
    (hF : ∀ (m : Nat) (i : Int), F (m + 1) [fz ⟨xs⟩, .string s, .int .i64 n, .int .i64 i] h0 K =
      cond (decide (i < n)) (cond (decide (0 ≤ i) && decide (i < ((Array.mk xs).size : Int)) && true)
      ((Array.mk xs).toList.getD i.toNat (Value.tuple { toList := [] }) = Value.string (toStr ((Array.mk xs).toList.getD i.toNat (Value.tuple { toList := [] }))) ∧
        cond (s.toList == (toStr ((Array.mk xs).toList.getD i.toNat (Value.tuple { toList := [] }))).toList) (K .ret [.int .i64 i] h0) (F m [fz ⟨xs⟩, .string s, .int .i64 n, .int .i64 (IntKind.i64.wrap (i + 1))] h0 K)) False) (K (.exit 0) [anyV] h0))
    (hx : xs.all isStr = true) (h1 : (xs.length : Int) = n) (h3 : n ≤ 4000) :
    ∀ (r i : Nat), (i : Int) + r = n → cond (decide (idxS s (xs.drop i) i ≥ 0)) (K .ret [.int .i64 (idxS s (xs.drop i) i)] h0) (K (.exit 0) [anyV] h0) → F (r + 1) [fz ⟨xs⟩, .string s, .int .i64 n, .int .i64 i] h0 K := by
  intro r
  induction r with
  | zero =>
    intro i h4 h5
    rw [hF]
    refine pick_f (by simp; omega) ?_
    rw [List.drop_eq_nil_of_le (by omega)] at h5
    exact h5
  | succ r ih =>
    intro i h4 h5
    rw [hF]
    have i1 : i < xs.length := by omega
    have e1 := str_get hx i1
    rw [drop_cons i1] at h5
    refine pick_t (by simp; omega) (need_mk (by simp; omega) ⟨by simpa using e1, ?_⟩)
    rw [Int.toNat_natCast]
    cases hb : (s.toList == (toStr (xs.getD i (Value.tuple { toList := [] }))).toList) with
    | true =>
      rw [show idxS s (xs.getD i (Value.tuple { toList := [] }) :: xs.drop (i + 1)) i = i by simp only [idxS, hb, cond_true]] at h5
      refine pick_t rfl ?_
      simpa using h5
    | false =>
      rw [show idxS s (xs.getD i (Value.tuple { toList := [] }) :: xs.drop (i + 1)) i = idxS s (xs.drop (i + 1)) (i + 1) by simp only [idxS, hb, cond_false]] at h5
      refine pick_f rfl ?_
      rw [wrap_id _ (by omega) (by omega)]
      exact ih (i + 1) (by omega) (by simpa using h5)
theorem one129 : (loopAt (codeOf Tryz.f129) 2).length = 1 := by kernel_rfl
theorem some129 : Tryz.f129.body.isSome = true := by kernel_rfl
theorem some62 : Tryz.f62.body.isSome = true := by kernel_rfl
theorem ixf (xs : List Value) (s : ByteArray) (b : Bool) (r : Int) (C : List Value → AH → Prop) (Q : Value → AH → Prop) :
    tfn Tryz.prog SQ [] (hook1 2 (hookLS 0 19 [0, 1, 7, 8] [] [4] (fun vals h K => C vals h ∧ cond b (K .ret [.int .i64 r] h0) (K (.exit 0) [anyV] h0)))) 200 [] Tryz.f129 [fz ⟨xs⟩, .string s] h0 Q =
    (C [fz ⟨xs⟩, .string s, .int .i64 ((Array.mk xs).size : Int), .int .i64 0] h0 ∧ cond b (Q (.int .i64 r) h0) (Q (.int .i64 (-1)) h0)) := by kernel_rfl
theorem index_fn (xs : List Value) (s : ByteArray) (hx : xs.all isStr = true) (h : xs.length ≤ 4000) : FnOK 0 Tryz.prog 129 ⟨[fz ⟨xs⟩, .string s]⟩ h0 (fun v _ => v = .int .i64 (idxS s xs 0)) := by
  have hC : LSpec 0 Tryz.prog 19 (oneLoop (codeOf Tryz.f129) 2) (hookLS 0 19 [0, 1, 7, 8] [] [4] (fun vals h K => (vals = [fz ⟨xs⟩, .string s, .int .i64 (xs.length : Int), .int .i64 0] ∧ h = h0) ∧ cond (decide (idxS s xs 0 ≥ 0)) (K .ret [.int .i64 (idxS s xs 0)] h0) (K (.exit 0) [anyV] h0))) := by
    refine hook_ok (G := []) (L := noHooks) (f := 100) (sameX := []) SQ_ok mixed (by decide) (loops_none _ _ _ _) ?_
    rintro vals h K ⟨⟨rfl, rfl⟩, hK⟩
    refine ⟨xs.length + 1, ?_⟩
    exact ix_loop (F := iter 0 Tryz.prog SQ [] noHooks 100 19 [0, 1, 7, 8] [] [4] [] (oneLoop (codeOf Tryz.f129) 2)) (K := K) (fun m i => ixo xs s _ i _ K) hx rfl (by omega) xs.length 0 (by simp) hK
  refine FnOK.ttree SQ_ok mixed Tryz.func129 some129 (loops_one one129 hC) (ixf xs s (decide (idxS s xs 0 ≥ 0)) (idxS s xs 0) (fun vals h => vals = [fz ⟨xs⟩, .string s, .int .i64 (xs.length : Int), .int .i64 0] ∧ h = h0) _) ?_
  refine ⟨⟨rfl, rfl⟩, ?_⟩
  cases hb : decide (idxS s xs 0 ≥ 0) with
  | true => rfl
  | false =>
    have h2 : ∀ (l : List Value) (i : Int), 0 ≤ i → ¬ idxS s l i ≥ 0 → idxS s l i = -1 := by
      intro l
      induction l with
      | nil => intro i _ _; rfl
      | cons v l ih =>
        intro i hi hn
        simp only [idxS] at hn ⊢
        cases hc : (s.toList == (toStr v).toList) with
        | true => rw [hc] at hn; exact (hn hi).elim
        | false => rw [hc] at hn; exact ih (i + 1) (by omega) hn
    rw [h2 xs 0 (by omega) (of_decide_eq_false hb)]
    rfl
def spIdx (f : FuncId) (args : Array Value) (h : AH) : Option (Bool × Value × AH) :=
  cond (Nat.beq f 129) (match args with
    | ⟨[.func (.yield 0) ⟨xs⟩ ⟨[]⟩, .string s]⟩ => some (xs.all isStr && Nat.ble xs.length 4000, .int .i64 (idxS s xs 0), h)
    | _ => none) none
theorem spIdx_ok : SpOK spIdx := by
  intro f args h v h' hs
  unfold spIdx at hs
  obtain ⟨hf, hs2⟩ := cond_some hs
  clear hs
  have := Nat.eq_of_beq_eq_true hf
  subst this
  split at hs2
  · injection hs2 with hs
    injection hs with hb hs
    injection hs with hv hh
    subst hv hh
    simp only [Bool.and_eq_true, Nat.ble_eq] at hb
    exact ⟨FnOK.pure (index_fn _ _ hb.1 hb.2) rfl rfl h, Nat.le_refl _⟩
  · cases hs2
def SX : SC := ⟨idn, spIdx, true, false⟩
theorem SX_ok : SX.cfg.OK Tryz.prog := spIdx_ok.cfg
theorem ctf (xs : List Value) (s : ByteArray) (Q : Value → Prop) : ffn Tryz.prog SX [] 100 [] Tryz.f62 [fz ⟨xs⟩, .string s] h0 (fun v _ => Q v) = cond (xs.all isStr && Nat.ble xs.length 4000) (Q (.bool (decide (idxS s xs 0 ≥ 0)))) False := by kernel_rfl
theorem cont_fn (xs : List Value) (s : ByteArray) (hx : xs.all isStr = true) (h : xs.length ≤ 4000) : FnOK 0 Tryz.prog 62 ⟨[fz ⟨xs⟩, .string s]⟩ h0 (fun v _ => v = .bool (hasS xs s)) := by
  refine FnOK.ftree SX_ok mixed Tryz.func62 some62 (ctf xs s fun v => v = .bool (hasS xs s)) (need_mk (by rw [hx, Nat.ble_eq_true_of_le h]; rfl) ?_)
  rw [idxS_has s xs 0 (by omega)]
def spCont (f : FuncId) (args : Array Value) (h : AH) : Option (Bool × Value × AH) :=
  cond (Nat.beq f 62) (match args with
    | ⟨[.func (.yield 0) ⟨xs⟩ ⟨[]⟩, .string s]⟩ => some (xs.all isStr && Nat.ble xs.length 4000, .bool (hasS xs s), h)
    | _ => none) none
theorem spCont_ok : SpOK spCont := by
  intro f args h v h' hs
  unfold spCont at hs
  obtain ⟨hf, hs2⟩ := cond_some hs
  clear hs
  have := Nat.eq_of_beq_eq_true hf
  subst this
  split at hs2
  · injection hs2 with hs
    injection hs with hb hs
    injection hs with hv hh
    subst hv hh
    simp only [Bool.and_eq_true, Nat.ble_eq] at hb
    exact ⟨FnOK.pure (cont_fn _ _ hb.1 hb.2) rfl rfl h, Nat.le_refl _⟩
  · cases hs2
end Go.Proofs.YtfjfdemnnhfmoaaGreatDoor
