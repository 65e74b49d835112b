/-
  Tokens stay: CheckRevoked, equal revoked ones, Prune.
-/
import Derived.Test.YtklednomnpghcaaGreatDoorTsE
namespace Go.Proofs.YtklednomnpghcaaGreatDoor
open Go.Ev Go.RowKit

noncomputable def crB (t : R3) (Q : Int → Prop) (X : Prop) : Prop := bif decide (t.2.1 < 0) then Q 1 else bif decide (t.2.1 > t.2.2) then Q 1 else bif decide (t.2.2 > 345686400000) then Q 1 else X
noncomputable def crT : Option ByteArray → List R3 → (Int → Prop) → Prop
  | _, [], Q => Q 0
  | none, t :: l, Q => bif inId t.1 then bif !ikV t.1 then Q 5 else crB t Q (crT (some t.1) l Q) else False
  | some y, t :: l, Q => bif inId t.1 then bif !ikV t.1 then Q 5 else bif (Op.bytesLess t.1.toList y.toList || t.1.toList == y.toList) then Q 7 else crB t Q (crT (some t.1) l Q) else False
theorem cr0 (Q : Value → Prop) : ffn Tryz.prog SCr [] 3000 [] Tryz.f42 [rvW []] h0 (fun v _ => Q v) = crT none [] (fun e => Q (.int .i64 e)) := by kernel_rfl
theorem cr1 (x0 : ByteArray) (a0 u0 : Int) (Q : Value → Prop) : ffn Tryz.prog SCr [] 3000 [] Tryz.f42 [rvW [(x0, a0, u0)]] h0 (fun v _ => Q v) = crT none [(x0, a0, u0)] (fun e => Q (.int .i64 e)) := by kernel_rfl
theorem cr2 (x0 x1 : ByteArray) (a0 u0 a1 u1 : Int) (Q : Value → Prop) : ffn Tryz.prog SCr [] 3000 [] Tryz.f42 [rvW [(x0, a0, u0), (x1, a1, u1)]] h0 (fun v _ => Q v) = crT none [(x0, a0, u0), (x1, a1, u1)] (fun e => Q (.int .i64 e)) := by kernel_rfl
theorem cr3 (x0 x1 x2 : ByteArray) (a0 u0 a1 u1 a2 u2 : Int) (Q : Value → Prop) : ffn Tryz.prog SCr [] 3000 [] Tryz.f42 [rvW [(x0, a0, u0), (x1, a1, u1), (x2, a2, u2)]] h0 (fun v _ => Q v) = crT none [(x0, a0, u0), (x1, a1, u1), (x2, a2, u2)] (fun e => Q (.int .i64 e)) := by kernel_rfl
theorem cr4 (x0 x1 x2 x3 : ByteArray) (a0 u0 a1 u1 a2 u2 a3 u3 : Int) (Q : Value → Prop) : ffn Tryz.prog SCr [] 3000 [] Tryz.f42 [rvW [(x0, a0, u0), (x1, a1, u1), (x2, a2, u2), (x3, a3, u3)]] h0 (fun v _ => Q v) = crT none [(x0, a0, u0), (x1, a1, u1), (x2, a2, u2), (x3, a3, u3)] (fun e => Q (.int .i64 e)) := by kernel_rfl
def E4 (e : Int) : Prop := e = 0 ∨ e = 1 ∨ e = 5 ∨ e = 7
instance (e : Int) : Decidable (E4 e) := by unfold E4; infer_instance
theorem crB_ex (t : R3) (X : (Int → Prop) → Prop) (hX : ∃ e, E4 e ∧ ∀ Q : Int → Prop, Q e → X Q) : ∃ e, E4 e ∧ ∀ Q : Int → Prop, Q e → crB t Q (X Q) := by
  by_cases h1 : t.2.1 < 0
  · exact ⟨1, by decide, fun Q hQ => pick_t (decide_eq_true h1) hQ⟩
  by_cases h2 : t.2.1 > t.2.2
  · exact ⟨1, by decide, fun Q hQ => pick_f (decide_eq_false h1) (pick_t (decide_eq_true h2) hQ)⟩
  by_cases h3 : t.2.2 > 345686400000
  · exact ⟨1, by decide, fun Q hQ => pick_f (decide_eq_false h1) (pick_f (decide_eq_false h2) (pick_t (decide_eq_true h3) hQ))⟩
  obtain ⟨e, e4, he⟩ := hX
  exact ⟨e, e4, fun Q hQ => pick_f (decide_eq_false h1) (pick_f (decide_eq_false h2) (pick_f (decide_eq_false h3) (he Q hQ)))⟩
theorem crT_ex : ∀ (l : List R3) (p : Option ByteArray), (∀ t ∈ l, inId t.1 = true) → ∃ e, E4 e ∧ ∀ Q : Int → Prop, Q e → crT p l Q
  | [], _, _ => ⟨0, by decide, fun _ h => by unfold crT; exact h⟩
  | t :: l, none, h => by
    obtain ⟨e, e4, he⟩ := crB_ex t (fun Q => crT (some t.1) l Q) (crT_ex l (some t.1) fun s hs => h s (List.mem_cons_of_mem _ hs))
    have ht := h t List.mem_cons_self
    cases hk : !ikV t.1 with
    | true => exact ⟨5, by decide, fun Q hQ => by unfold crT; exact need_mk ht (pick_t hk hQ)⟩
    | false => exact ⟨e, e4, fun Q hQ => by unfold crT; exact need_mk ht (pick_f hk (he Q hQ))⟩
  | t :: l, some y, h => by
    obtain ⟨e, e4, he⟩ := crB_ex t (fun Q => crT (some t.1) l Q) (crT_ex l (some t.1) fun s hs => h s (List.mem_cons_of_mem _ hs))
    have ht := h t List.mem_cons_self
    cases hk : !ikV t.1 with
    | true => exact ⟨5, by decide, fun Q hQ => by unfold crT; exact need_mk ht (pick_t hk hQ)⟩
    | false =>
      cases hc : (Op.bytesLess t.1.toList y.toList || t.1.toList == y.toList) with
      | true => exact ⟨7, by decide, fun Q hQ => by unfold crT; exact need_mk ht (pick_f hk (pick_t hc hQ))⟩
      | false => exact ⟨e, e4, fun Q hQ => by unfold crT; exact need_mk ht (pick_f hk (pick_f hc (he Q hQ)))⟩
theorem someCKR : Tryz.f42.body.isSome = true := by kernel_rfl
theorem ckr_fn : ∀ (L : List R3), L.length ≤ 4 → (∀ t ∈ L, inId t.1 = true) → ∃ e, E4 e ∧ FnOK 0 Tryz.prog 42 ⟨[rvW L]⟩ h0 (fun v _ => v = .int .i64 e)
  | [], _, h => by
    obtain ⟨e, e4, he⟩ := crT_ex [] none h
    exact ⟨e, e4, FnOK.ftree SCr_ok mixed Tryz.func42 someCKR (cr0 (fun v => v = .int .i64 e)) (he (fun z => Value.int .i64 z = .int .i64 e) rfl)⟩
  | [(x0, a0, u0)], _, h => by
    obtain ⟨e, e4, he⟩ := crT_ex [(x0, a0, u0)] none h
    exact ⟨e, e4, FnOK.ftree SCr_ok mixed Tryz.func42 someCKR (cr1 x0 a0 u0 (fun v => v = .int .i64 e)) (he (fun z => Value.int .i64 z = .int .i64 e) rfl)⟩
  | [(x0, a0, u0), (x1, a1, u1)], _, h => by
    obtain ⟨e, e4, he⟩ := crT_ex [(x0, a0, u0), (x1, a1, u1)] none h
    exact ⟨e, e4, FnOK.ftree SCr_ok mixed Tryz.func42 someCKR (cr2 x0 x1 a0 u0 a1 u1 (fun v => v = .int .i64 e)) (he (fun z => Value.int .i64 z = .int .i64 e) rfl)⟩
  | [(x0, a0, u0), (x1, a1, u1), (x2, a2, u2)], _, h => by
    obtain ⟨e, e4, he⟩ := crT_ex [(x0, a0, u0), (x1, a1, u1), (x2, a2, u2)] none h
    exact ⟨e, e4, FnOK.ftree SCr_ok mixed Tryz.func42 someCKR (cr3 x0 x1 x2 a0 u0 a1 u1 a2 u2 (fun v => v = .int .i64 e)) (he (fun z => Value.int .i64 z = .int .i64 e) rfl)⟩
  | [(x0, a0, u0), (x1, a1, u1), (x2, a2, u2), (x3, a3, u3)], _, h => by
    obtain ⟨e, e4, he⟩ := crT_ex [(x0, a0, u0), (x1, a1, u1), (x2, a2, u2), (x3, a3, u3)] none h
    exact ⟨e, e4, FnOK.ftree SCr_ok mixed Tryz.func42 someCKR (cr4 x0 x1 x2 x3 a0 u0 a1 u1 a2 u2 a3 u3 (fun v => v = .int .i64 e)) (he (fun z => Value.int .i64 z = .int .i64 e) rfl)⟩
  | _ :: _ :: _ :: _ :: _ :: _, h, _ => absurd h (by simp)
/-! Equal -/
noncomputable def eqV : List R3 → (Bool → Prop) → Prop
  | [], Q => Q true
  | (x, a, u) :: l, Q => bif !(x == x && (a == a && (u == u && true))) then Q false else eqV l Q
theorem eqV_ok {Q : Bool → Prop} (hQ : Q true) : ∀ l : List R3, eqV l Q
  | [] => hQ
  | (x, a, u) :: l => pick_f (by simp only [ba_self, beq_self_eq_true, Bool.and_self, Bool.not_true]) (eqV_ok hQ l)
theorem someEQV : Tryz.f21.body.isSome = true := by kernel_rfl
theorem ev0 (Q : Value → Prop) : ffn Tryz.prog SC0 [] 3000 [] Tryz.f21 [rvW [], rvW []] h0 (fun v _ => Q v) = eqV [] (fun b => Q (.bool b)) := by kernel_rfl
theorem ev1 (x0 : ByteArray) (a0 u0 : Int) (Q : Value → Prop) : ffn Tryz.prog SC0 [] 3000 [] Tryz.f21 [rvW [(x0, a0, u0)], rvW [(x0, a0, u0)]] h0 (fun v _ => Q v) = eqV [(x0, a0, u0)] (fun b => Q (.bool b)) := by kernel_rfl
theorem ev2 (x0 x1 : ByteArray) (a0 u0 a1 u1 : Int) (Q : Value → Prop) : ffn Tryz.prog SC0 [] 3000 [] Tryz.f21 [rvW [(x0, a0, u0), (x1, a1, u1)], rvW [(x0, a0, u0), (x1, a1, u1)]] h0 (fun v _ => Q v) = eqV [(x0, a0, u0), (x1, a1, u1)] (fun b => Q (.bool b)) := by kernel_rfl
theorem ev3 (x0 x1 x2 : ByteArray) (a0 u0 a1 u1 a2 u2 : Int) (Q : Value → Prop) : ffn Tryz.prog SC0 [] 3000 [] Tryz.f21 [rvW [(x0, a0, u0), (x1, a1, u1), (x2, a2, u2)], rvW [(x0, a0, u0), (x1, a1, u1), (x2, a2, u2)]] h0 (fun v _ => Q v) = eqV [(x0, a0, u0), (x1, a1, u1), (x2, a2, u2)] (fun b => Q (.bool b)) := by kernel_rfl
theorem ev4 (x0 x1 x2 x3 : ByteArray) (a0 u0 a1 u1 a2 u2 a3 u3 : Int) (Q : Value → Prop) : ffn Tryz.prog SC0 [] 3000 [] Tryz.f21 [rvW [(x0, a0, u0), (x1, a1, u1), (x2, a2, u2), (x3, a3, u3)], rvW [(x0, a0, u0), (x1, a1, u1), (x2, a2, u2), (x3, a3, u3)]] h0 (fun v _ => Q v) = eqV [(x0, a0, u0), (x1, a1, u1), (x2, a2, u2), (x3, a3, u3)] (fun b => Q (.bool b)) := by kernel_rfl
theorem eqv_fn : ∀ (L : List R3), L.length ≤ 4 → FnOK 0 Tryz.prog 21 ⟨[rvW L, rvW L]⟩ h0 (fun v _ => v = .bool true)
  | [], _ => FnOK.ftree SC0_ok mixed Tryz.func21 someEQV (ev0 (fun v => v = .bool true)) (eqV_ok (Q := fun b => Value.bool b = .bool true) rfl _)
  | [(x0, a0, u0)], _ => FnOK.ftree SC0_ok mixed Tryz.func21 someEQV (ev1 x0 a0 u0 (fun v => v = .bool true)) (eqV_ok (Q := fun b => Value.bool b = .bool true) rfl _)
  | [(x0, a0, u0), (x1, a1, u1)], _ => FnOK.ftree SC0_ok mixed Tryz.func21 someEQV (ev2 x0 x1 a0 u0 a1 u1 (fun v => v = .bool true)) (eqV_ok (Q := fun b => Value.bool b = .bool true) rfl _)
  | [(x0, a0, u0), (x1, a1, u1), (x2, a2, u2)], _ => FnOK.ftree SC0_ok mixed Tryz.func21 someEQV (ev3 x0 x1 x2 a0 u0 a1 u1 a2 u2 (fun v => v = .bool true)) (eqV_ok (Q := fun b => Value.bool b = .bool true) rfl _)
  | [(x0, a0, u0), (x1, a1, u1), (x2, a2, u2), (x3, a3, u3)], _ => FnOK.ftree SC0_ok mixed Tryz.func21 someEQV (ev4 x0 x1 x2 x3 a0 u0 a1 u1 a2 u2 a3 u3 (fun v => v = .bool true)) (eqV_ok (Q := fun b => Value.bool b = .bool true) rfl _)
  | _ :: _ :: _ :: _ :: _ :: _, h => absurd h (by simp)
/-! Prune -/
def slT : Value → (Nat × Nat × Bool) × Value
  | .tuple ⟨[v, e]⟩ => (slN v, e)
  | _ => ((999, 0, false), .tuple ⟨[]⟩)
abbrev TQ : Type := (Nat × Nat × Bool) × Value → Option Obj → Prop
def zv : Nat → List Value
  | 0 => []
  | n + 1 => .string ⟨#[]⟩ :: .int .i64 0 :: .int .i64 0 :: zv n
noncomputable def pB (Q : TQ) (n : Nat) : List R3 → List R3 → Prop
  | [], K => Q ((K.length, n, true), .int .i64 0) (some (.cells ⟨K.flatMap rvC ++ zv (n - K.length)⟩ 53 (0, 0)))
  | t :: r, K => bif !decide (t.2.2 ≤ 0) then pB Q n r (K ++ [t]) else pB Q n r K
noncomputable def pA (Q : TQ) (n : Nat) : List R3 → List R3 → Prop
  | [], K => Q ((n, n, true), .int .i64 0) (some (.cells ⟨K.flatMap rvC⟩ 53 (0, 0)))
  | t :: r, K => bif decide (t.2.2 ≤ 0) then pB Q n r K else pA Q n r (K ++ [t])
noncomputable def SPru (L : List R3) (e : Int) : SC := ⟨idn, spT 42 [rvW L] (.int .i64 e), false, true⟩
theorem pr1 (x0 : ByteArray) (a0 u0 : Int) (Q : TQ) : ffn Tryz.prog (SPru [(x0, a0, u0)] 0) [] 3000 [] Tryz.f17 [rvW [(x0, a0, u0)], .int .i64 0] h0 (fun v h => Q (slT v) (h.get (blkT v))) = bif tq [rvW [(x0, a0, u0)]] [rvW [(x0, a0, u0)]] then pA Q 1 [(x0, a0, u0)] [] else False := by kernel_rfl
theorem pr2 (x0 x1 : ByteArray) (a0 u0 a1 u1 : Int) (Q : TQ) : ffn Tryz.prog (SPru [(x0, a0, u0), (x1, a1, u1)] 0) [] 3000 [] Tryz.f17 [rvW [(x0, a0, u0), (x1, a1, u1)], .int .i64 0] h0 (fun v h => Q (slT v) (h.get (blkT v))) = bif tq [rvW [(x0, a0, u0), (x1, a1, u1)]] [rvW [(x0, a0, u0), (x1, a1, u1)]] then pA Q 2 [(x0, a0, u0), (x1, a1, u1)] [] else False := by kernel_rfl
theorem pr3 (x0 x1 x2 : ByteArray) (a0 u0 a1 u1 a2 u2 : Int) (Q : TQ) : ffn Tryz.prog (SPru [(x0, a0, u0), (x1, a1, u1), (x2, a2, u2)] 0) [] 3000 [] Tryz.f17 [rvW [(x0, a0, u0), (x1, a1, u1), (x2, a2, u2)], .int .i64 0] h0 (fun v h => Q (slT v) (h.get (blkT v))) = bif tq [rvW [(x0, a0, u0), (x1, a1, u1), (x2, a2, u2)]] [rvW [(x0, a0, u0), (x1, a1, u1), (x2, a2, u2)]] then pA Q 3 [(x0, a0, u0), (x1, a1, u1), (x2, a2, u2)] [] else False := by kernel_rfl
theorem pr4 (x0 x1 x2 x3 : ByteArray) (a0 u0 a1 u1 a2 u2 a3 u3 : Int) (Q : TQ) : ffn Tryz.prog (SPru [(x0, a0, u0), (x1, a1, u1), (x2, a2, u2), (x3, a3, u3)] 0) [] 3000 [] Tryz.f17 [rvW [(x0, a0, u0), (x1, a1, u1), (x2, a2, u2), (x3, a3, u3)], .int .i64 0] h0 (fun v h => Q (slT v) (h.get (blkT v))) = bif tq [rvW [(x0, a0, u0), (x1, a1, u1), (x2, a2, u2), (x3, a3, u3)]] [rvW [(x0, a0, u0), (x1, a1, u1), (x2, a2, u2), (x3, a3, u3)]] then pA Q 4 [(x0, a0, u0), (x1, a1, u1), (x2, a2, u2), (x3, a3, u3)] [] else False := by kernel_rfl
theorem prN (Q : Value → Prop) : ffn Tryz.prog (SPru [] 0) [] 3000 [] Tryz.f17 [rvW [], .int .i64 0] h0 (fun v _ => Q v) = bif tq [rvW []] [rvW []] then Q (.tuple ⟨[.slice none 0 0, .int .i64 0]⟩) else False := by kernel_rfl
theorem prE1 (L : List R3) (Q : Value → Prop) : ffn Tryz.prog (SPru L 1) [] 3000 [] Tryz.f17 [rvW L, .int .i64 0] h0 (fun v _ => Q v) = bif tq [rvW L] [rvW L] then Q (.tuple ⟨[.slice none 0 0, .int .i64 1]⟩) else False := by kernel_rfl
theorem prE5 (L : List R3) (Q : Value → Prop) : ffn Tryz.prog (SPru L 5) [] 3000 [] Tryz.f17 [rvW L, .int .i64 0] h0 (fun v _ => Q v) = bif tq [rvW L] [rvW L] then Q (.tuple ⟨[.slice none 0 0, .int .i64 5]⟩) else False := by kernel_rfl
theorem prE7 (L : List R3) (Q : Value → Prop) : ffn Tryz.prog (SPru L 7) [] 3000 [] Tryz.f17 [rvW L, .int .i64 0] h0 (fun v _ => Q v) = bif tq [rvW L] [rvW L] then Q (.tuple ⟨[.slice none 0 0, .int .i64 7]⟩) else False := by kernel_rfl
/-- What comes of a call that makes a list: nil, or a new row. -/
def Made (f : FuncId) (xs : List Value) (t : TypeId) (m w : Nat) : Prop :=
  (∃ e, FnOK 0 Tryz.prog f ⟨xs⟩ h0 (fun v _ => v = .tuple ⟨[.slice none 0 0, .int .i64 e]⟩)) ∨ ∃ n c cs, RowOK f xs (slE n c) cs t ∧ OKZ m w n cs
theorem slT_t {v : Value} {n c : Nat} {e : Value} (h : slT v = ((n, c, true), e)) : ∃ b, v = .tuple ⟨[.slice (some ⟨b, 0, none⟩) n c, e]⟩ ∧ blkT v = b := by
  unfold slT at h
  split at h
  · rename_i u e'
    simp only [Prod.mk.injEq] at h
    obtain ⟨h1, rfl⟩ := h
    obtain ⟨b, rfl, hb⟩ := slN_t h1
    exact ⟨b, rfl, rfl⟩
  · simp at h
theorem row_of {f : FuncId} {xs : List Value} {n c : Nat} {cs : List Value} {t : TypeId} (h : FnOK 0 Tryz.prog f ⟨xs⟩ h0 (fun v g => slT v = ((n, c, true), .int .i64 0) ∧ g.get (blkT v) = some (.cells ⟨cs⟩ t (0, 0)))) : RowOK f xs (slE n c) cs t := by
  refine FnOK.mono h ?_
  rintro v g ⟨h1, h2⟩
  obtain ⟨b, rfl, hb⟩ := slT_t h1
  rw [hb] at h2
  exact ⟨b, rfl, h2⟩
theorem zv_len : ∀ n, (zv n).length = n * 3
  | 0 => rfl
  | n + 1 => by
    show (zv n).length + 1 + 1 + 1 = _
    rw [zv_len n]; omega
theorem zv_p1 : ∀ n, ∀ v ∈ zv n, p1 v = true
  | 0, v, h => by cases h
  | n + 1, v, h => by
    simp only [zv, List.mem_cons] at h
    rcases h with rfl | rfl | rfl | h
    · rfl
    · rfl
    · rfl
    · exact zv_p1 n v h
theorem pB_ex (n : Nat) (hn : n ≤ 5) : ∀ (r K : List R3), K.length + r.length ≤ n → ∃ m cs, OKZ 5 3 m cs ∧ ∀ Q : TQ, Q ((m, n, true), .int .i64 0) (some (.cells ⟨cs⟩ 53 (0, 0))) → pB Q n r K
  | [], K, h => by
    simp only [List.length_nil] at h
    refine ⟨K.length, _, ⟨by omega, ?_, ?_⟩, fun Q hQ => hQ⟩
    · rw [List.length_append, rvC_len]; omega
    · intro v hv
      rcases List.mem_append.1 hv with hv | hv
      · exact rvC_p1 K v hv
      · exact zv_p1 _ v hv
  | t :: r, K, h => by
    simp only [List.length_cons] at h
    cases hc : !decide (t.2.2 ≤ 0) with
    | true =>
      obtain ⟨m, cs, h1, h2⟩ := pB_ex n hn r (K ++ [t]) (by simp; omega)
      exact ⟨m, cs, h1, fun Q hQ => pick_t hc (h2 Q hQ)⟩
    | false =>
      obtain ⟨m, cs, h1, h2⟩ := pB_ex n hn r K (by omega)
      exact ⟨m, cs, h1, fun Q hQ => pick_f hc (h2 Q hQ)⟩
theorem pA_ex (n : Nat) (hn : n ≤ 5) : ∀ (r K : List R3), K.length + r.length = n → ∃ m cs, OKZ 5 3 m cs ∧ ∀ Q : TQ, Q ((m, n, true), .int .i64 0) (some (.cells ⟨cs⟩ 53 (0, 0))) → pA Q n r K
  | [], K, h => by
    simp only [List.length_nil] at h
    exact ⟨n, _, ⟨by omega, by rw [rvC_len]; omega, rvC_p1 K⟩, fun Q hQ => hQ⟩
  | t :: r, K, h => by
    simp only [List.length_cons] at h
    cases hc : decide (t.2.2 ≤ 0) with
    | true =>
      obtain ⟨m, cs, h1, h2⟩ := pB_ex n hn r K (by omega)
      exact ⟨m, cs, h1, fun Q hQ => pick_t hc (h2 Q hQ)⟩
    | false =>
      obtain ⟨m, cs, h1, h2⟩ := pA_ex n hn r (K ++ [t]) (by simp; omega)
      exact ⟨m, cs, h1, fun Q hQ => pick_f hc (h2 Q hQ)⟩
theorem SPru_ok {L : List R3} {e : Int} (h : FnOK 0 Tryz.prog 42 ⟨[rvW L]⟩ h0 (fun v _ => v = .int .i64 e)) : (SPru L e).cfg.OK Tryz.prog := (spT_ok h (by
  show (p2 (rvW L) && true) = true
  cases L <;> rfl) rfl).cfg
theorem somePRU : Tryz.f17.body.isSome = true := by kernel_rfl
theorem pr_fn : ∀ (L : List R3), L.length ≤ 4 → (∀ t ∈ L, inId t.1 = true) → Made 17 [rvW L, .int .i64 0] 53 5 3 := by
  intro L h4 hi
  obtain ⟨e, e4, he⟩ := ckr_fn L h4 hi
  have hC := SPru_ok he
  rcases e4 with rfl | rfl | rfl | rfl
  · match L, h4, hC with
    | [], _, hC => exact .inl ⟨0, FnOK.ftree hC mixed Tryz.func17 somePRU (prN (fun v => v = .tuple ⟨[.slice none 0 0, .int .i64 0]⟩)) (need_mk (tq_eq rfl) rfl)⟩
    | [(x0, a0, u0)], _, hC =>
      obtain ⟨m, cs, h1, h2⟩ := pA_ex 1 (by decide) [(x0, a0, u0)] [] rfl
      exact .inr ⟨m, 1, cs, row_of (FnOK.ftree hC mixed Tryz.func17 somePRU (pr1 x0 a0 u0 (fun s o => s = ((m, 1, true), .int .i64 0) ∧ o = some (.cells ⟨cs⟩ 53 (0, 0)))) (need_mk (tq_eq rfl) (h2 _ ⟨rfl, rfl⟩))), h1⟩
    | [(x0, a0, u0), (x1, a1, u1)], _, hC =>
      obtain ⟨m, cs, h1, h2⟩ := pA_ex 2 (by decide) [(x0, a0, u0), (x1, a1, u1)] [] rfl
      exact .inr ⟨m, 2, cs, row_of (FnOK.ftree hC mixed Tryz.func17 somePRU (pr2 x0 x1 a0 u0 a1 u1 (fun s o => s = ((m, 2, true), .int .i64 0) ∧ o = some (.cells ⟨cs⟩ 53 (0, 0)))) (need_mk (tq_eq rfl) (h2 _ ⟨rfl, rfl⟩))), h1⟩
    | [(x0, a0, u0), (x1, a1, u1), (x2, a2, u2)], _, hC =>
      obtain ⟨m, cs, h1, h2⟩ := pA_ex 3 (by decide) [(x0, a0, u0), (x1, a1, u1), (x2, a2, u2)] [] rfl
      exact .inr ⟨m, 3, cs, row_of (FnOK.ftree hC mixed Tryz.func17 somePRU (pr3 x0 x1 x2 a0 u0 a1 u1 a2 u2 (fun s o => s = ((m, 3, true), .int .i64 0) ∧ o = some (.cells ⟨cs⟩ 53 (0, 0)))) (need_mk (tq_eq rfl) (h2 _ ⟨rfl, rfl⟩))), h1⟩
    | [(x0, a0, u0), (x1, a1, u1), (x2, a2, u2), (x3, a3, u3)], _, hC =>
      obtain ⟨m, cs, h1, h2⟩ := pA_ex 4 (by decide) [(x0, a0, u0), (x1, a1, u1), (x2, a2, u2), (x3, a3, u3)] [] rfl
      exact .inr ⟨m, 4, cs, row_of (FnOK.ftree hC mixed Tryz.func17 somePRU (pr4 x0 x1 x2 x3 a0 u0 a1 u1 a2 u2 a3 u3 (fun s o => s = ((m, 4, true), .int .i64 0) ∧ o = some (.cells ⟨cs⟩ 53 (0, 0)))) (need_mk (tq_eq rfl) (h2 _ ⟨rfl, rfl⟩))), h1⟩
    | _ :: _ :: _ :: _ :: _ :: _, h, _ => exact absurd h (by simp)
  · exact .inl ⟨1, FnOK.ftree hC mixed Tryz.func17 somePRU (prE1 L (fun v => v = .tuple ⟨[.slice none 0 0, .int .i64 1]⟩)) (need_mk (tq_eq rfl) rfl)⟩
  · exact .inl ⟨5, FnOK.ftree hC mixed Tryz.func17 somePRU (prE5 L (fun v => v = .tuple ⟨[.slice none 0 0, .int .i64 5]⟩)) (need_mk (tq_eq rfl) rfl)⟩
  · exact .inl ⟨7, FnOK.ftree hC mixed Tryz.func17 somePRU (prE7 L (fun v => v = .tuple ⟨[.slice none 0 0, .int .i64 7]⟩)) (need_mk (tq_eq rfl) rfl)⟩
end Go.Proofs.YtklednomnpghcaaGreatDoor
