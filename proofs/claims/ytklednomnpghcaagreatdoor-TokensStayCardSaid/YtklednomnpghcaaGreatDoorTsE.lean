/-
  Tokens stay: revoked tokens.
-/
import Derived.Test.YtklednomnpghcaaGreatDoorTsD
namespace Go.Proofs.YtklednomnpghcaaGreatDoor
open Go.Ev Go.RowKit

abbrev R3 : Type := ByteArray × Int × Int
def rvC (t : R3) : List Value := [.string t.1, .int .i64 t.2.1, .int .i64 t.2.2]
def rvV (t : R3) : Value := .agg ⟨rvC t⟩
def rvW : List R3 → Value
  | [] => .slice none 0 0
  | t :: l => fz ⟨(t :: l).map rvV⟩
def slN : Value → Nat × Nat × Bool
  | .slice (some ⟨_, 0, none⟩) n c => (n, c, true)
  | .slice none 0 0 => (0, 0, false)
  | _ => (999, 0, false)
theorem slN_t {v : Value} {n c : Nat} (h : slN v = (n, c, true)) : ∃ b, v = .slice (some ⟨b, 0, none⟩) n c ∧ blkN v = b := by
  unfold slN at h
  split at h
  · rename_i b n' c'
    cases h
    exact ⟨b, rfl, rfl⟩
  · cases h
  · cases h
theorem slN_f {v : Value} (h : slN v = (0, 0, false)) : v = .slice none 0 0 := by
  unfold slN at h
  split at h
  · cases h
  · rfl
  · cases h
def rvS : List R3 → Nat × Nat × Bool
  | [] => (0, 0, false)
  | t :: l => ((t :: l).length, (t :: l).length, true)
def rvB : List R3 → Option Obj
  | [] => none
  | t :: l => some (.cells ⟨(t :: l).flatMap rvC⟩ 53 (0, 0))
noncomputable def dn (xs : Array Value) (at_ n : Int) (Z : Prop) : Prop := bif Nat.beq 25 25 && decide (0 ≤ at_) && decide (at_ ≤ 1000000) && decide (1 ≤ n) && decide (n ≤ 1000000000000) && true && allInts xs then Z else False
theorem dn_ok (zs : List Int) {d n : Int} (h0 : 0 ≤ d) (h1 : d ≤ 1000000) (hn : 1 ≤ n) (hn2 : n ≤ 1000) {Z : Prop} (hZ : Z) : dn (intsV zs) d n Z :=
  need_mk (by rw [decide_eq_true h0, decide_eq_true h1, decide_eq_true hn, decide_eq_true (by omega : n ≤ 1000000000000), allInts_intsV]; rfl) hZ
abbrev RQ : Type := Nat × Nat × Bool → Option Obj → Option Obj → Prop
noncomputable def odT (xs : Array Value) (d lo n : Int) (l : List Value) (K : Int → Int → Prop) : Prop :=
  dn xs d 12 (bif nextR xs d 12 == 0 then dw xs (d + 1) 6 (K (gIt l (nextR xs (d + 1) 6)) (d + 1 + 1)) else dn xs (d + 1) n (K (IntKind.i64.wrap (lo + nextR xs (d + 1) n)) (d + 1 + 1)))
noncomputable def rvE (xs : Array Value) (acc : List R3) (d : Int) (Q : RQ) : Prop := Q (rvS acc) (some (strm xs d)) (rvB acc)
noncomputable def rvT (xs : Array Value) : List ByteArray → List R3 → Int → RQ → Prop
  | [], acc, d, Q => dn xs d 15 (bif nextR xs d 15 == 0 then dw xs (d + 1) 3 (odT xs (d + 1 + 1) 0 51 [Value.int IntKind.i64 (-1), Value.int IntKind.i64 51, Value.int IntKind.i64 0, Value.int IntKind.i64 50, Value.int IntKind.i64 (-1099511627776), Value.int IntKind.i64 1099511627776] fun a e => odT xs e 50 251 [Value.int IntKind.i64 49, Value.int IntKind.i64 301, Value.int IntKind.i64 50, Value.int IntKind.i64 300, Value.int IntKind.i64 (-1099511627776), Value.int IntKind.i64 1099511627776] fun u e2 => rvE xs (acc ++ [(gS [Value.string ⟨#[]⟩, Value.string ⟨#[116, 49]⟩, Value.string ⟨#[116, 57]⟩] (nextR xs (d + 1) 3), a, u)]) e2 Q) else rvE xs acc (d + 1) Q)
  | id :: l, acc, d, Q => dn xs d 3 (bif nextR xs d 3 == 0 then dw xs (d + 1) 3 (dw xs (d + 1 + 1) 3 (rvT xs l (acc ++ [(id, gIt [Value.int IntKind.i64 0, Value.int IntKind.i64 60, Value.int IntKind.i64 100] (nextR xs (d + 1) 3), IntKind.i64.wrap (gIt [Value.int IntKind.i64 0, Value.int IntKind.i64 60, Value.int IntKind.i64 100] (nextR xs (d + 1) 3) + gIt [Value.int IntKind.i64 0, Value.int IntKind.i64 50, Value.int IntKind.i64 200] (nextR xs (d + 1 + 1) 3)))]) (d + 1 + 1 + 1) Q)) else rvT xs l acc (d + 1) Q)
theorem rve (xs : Array Value) (d : Int) (Q : RQ) : ffn Tryz.prog SI [] 3000 [] Tryz.f8 [.pointer (some ⟨0, 0, none⟩)] (Ev.h1 (strm xs d)) (fun v h => Q (slN v) (h.get 0) (h.get (blkN v))) =
    rvT xs [⟨#[116, 48]⟩, ⟨#[116, 49]⟩, ⟨#[116, 50]⟩] [] d Q := by kernel_rfl
open Classical in
noncomputable def inId (s : ByteArray) : Bool := @decide (s = ⟨#[116, 48]⟩ ∨ s = ⟨#[116, 49]⟩ ∨ s = ⟨#[116, 50]⟩ ∨ s = ⟨#[]⟩ ∨ s = ⟨#[116, 57]⟩) (Classical.propDecidable _)
open Classical in
theorem inId_iff {s : ByteArray} : inId s = true ↔ s = ⟨#[116, 48]⟩ ∨ s = ⟨#[116, 49]⟩ ∨ s = ⟨#[116, 50]⟩ ∨ s = ⟨#[]⟩ ∨ s = ⟨#[116, 57]⟩ := by unfold inId; exact @decide_eq_true_iff _ (Classical.propDecidable _)
theorem od_ex (zs : List Int) {d lo n : Int} (l : List Value) (h0 : 0 ≤ d) (h1 : d ≤ 200000) (hn : 1 ≤ n) (hn2 : n ≤ 1000) : ∃ v e, d ≤ e ∧ e ≤ d + 2 ∧ ∀ K : Int → Int → Prop, K v e → odT (intsV zs) d lo n l K := by
  cases h : nextR (intsV zs) d 12 == 0 with
  | true => exact ⟨_, _, by omega, by omega, fun K hK => dn_ok zs h0 (by omega) (by omega) (by omega) (pick_t h (dw_ok zs (by omega) (by omega) (by omega) (by omega) hK))⟩
  | false => exact ⟨_, _, by omega, by omega, fun K hK => dn_ok zs h0 (by omega) (by omega) (by omega) (pick_f h (dn_ok zs (by omega) (by omega) hn hn2 hK))⟩
theorem rv_ex (zs : List Int) : ∀ (ids : List ByteArray) (acc : List R3) (d : Int), (∀ s ∈ ids, inId s = true) → (∀ t ∈ acc, inId t.1 = true) → acc.length + ids.length ≤ 3 → 0 ≤ d → d + 3 * ids.length ≤ 110000 →
    ∃ L e, L.length ≤ 4 ∧ (∀ t ∈ L, inId t.1 = true) ∧ d ≤ e ∧ e ≤ d + 3 * ids.length + 6 ∧ ∀ Q : RQ, Q (rvS L) (some (strm (intsV zs) e)) (rvB L) → rvT (intsV zs) ids acc d Q
  | [], acc, d, _, h2, h3, h4, h5 => by
    simp only [List.length_nil] at h3 h5
    cases h : nextR (intsV zs) d 15 == 0 with
    | true =>
      obtain ⟨a, e, e1, e2, hA⟩ := od_ex zs (d := d + 1 + 1) (lo := 0) (n := 51) [Value.int IntKind.i64 (-1), Value.int IntKind.i64 51, Value.int IntKind.i64 0, Value.int IntKind.i64 50, Value.int IntKind.i64 (-1099511627776), Value.int IntKind.i64 1099511627776] (by omega) (by omega) (by omega) (by omega)
      obtain ⟨u, e', e3, e4, hU⟩ := od_ex zs (d := e) (lo := 50) (n := 251) [Value.int IntKind.i64 49, Value.int IntKind.i64 301, Value.int IntKind.i64 50, Value.int IntKind.i64 300, Value.int IntKind.i64 (-1099511627776), Value.int IntKind.i64 1099511627776] (by omega) (by omega) (by omega) (by omega)
      have b1 := (nextR_spec zs 3 (d + 1) (by omega) (by omega) (by omega) (by omega)).1
      refine ⟨acc ++ [(gS [Value.string ⟨#[]⟩, Value.string ⟨#[116, 49]⟩, Value.string ⟨#[116, 57]⟩] (nextR (intsV zs) (d + 1) 3), a, u)], e', by simp; omega, ?_, by omega, by simp only [List.length_nil]; omega, fun Q hQ => dn_ok zs h4 (by omega) (by omega) (by omega) (pick_t h (dw_ok zs (by omega) (by omega) (by omega) (by omega) (hA _ (hU _ hQ))))⟩
      intro t ht
      rcases List.mem_append.1 ht with ht | ht
      · exact h2 t ht
      · rw [List.mem_singleton.1 ht]
        rcases gS3 (a := ⟨#[]⟩) (b := ⟨#[116, 49]⟩) (c := ⟨#[116, 57]⟩) b1.1 b1.2 with q | q | q
        · exact inId_iff.2 (by simp only [q]; simp)
        · exact inId_iff.2 (by simp only [q]; simp)
        · exact inId_iff.2 (by simp only [q]; simp)
    | false => exact ⟨acc, d + 1, by omega, h2, by omega, by simp only [List.length_nil]; omega, fun Q hQ => dn_ok zs h4 (by omega) (by omega) (by omega) (pick_f h hQ)⟩
  | id :: l, acc, d, h1, h2, h3, h4, h5 => by
    simp only [List.length_cons] at h3 h5
    cases h : nextR (intsV zs) d 3 == 0 with
    | true =>
      obtain ⟨L, e, g1, g2, g3, g4, hL⟩ := rv_ex zs l (acc ++ [(id, gIt [Value.int IntKind.i64 0, Value.int IntKind.i64 60, Value.int IntKind.i64 100] (nextR (intsV zs) (d + 1) 3), IntKind.i64.wrap (gIt [Value.int IntKind.i64 0, Value.int IntKind.i64 60, Value.int IntKind.i64 100] (nextR (intsV zs) (d + 1) 3) + gIt [Value.int IntKind.i64 0, Value.int IntKind.i64 50, Value.int IntKind.i64 200] (nextR (intsV zs) (d + 1 + 1) 3)))]) (d + 1 + 1 + 1) (fun s hs => h1 s (List.mem_cons_of_mem _ hs)) (by
        intro t ht
        rcases List.mem_append.1 ht with ht | ht
        · exact h2 t ht
        · rw [List.mem_singleton.1 ht]; exact h1 id List.mem_cons_self) (by simp; omega) (by omega) (by omega)
      exact ⟨L, e, g1, g2, by omega, by simp only [List.length_cons]; omega, fun Q hQ => dn_ok zs h4 (by omega) (by omega) (by omega) (pick_t h (dw_ok zs (by omega) (by omega) (by omega) (by omega) (dw_ok zs (by omega) (by omega) (by omega) (by omega) (hL Q hQ))))⟩
    | false =>
      obtain ⟨L, e, g1, g2, g3, g4, hL⟩ := rv_ex zs l acc (d + 1) (fun s hs => h1 s (List.mem_cons_of_mem _ hs)) h2 (by omega) (by omega) (by omega)
      exact ⟨L, e, g1, g2, by omega, by simp only [List.length_cons]; omega, fun Q hQ => dn_ok zs h4 (by omega) (by omega) (by omega) (pick_f h (hL Q hQ))⟩
theorem rvC_p1 (L : List R3) : ∀ v ∈ L.flatMap rvC, p1 v = true := by
  intro v hv
  obtain ⟨t, _, h⟩ := List.mem_flatMap.1 hv
  simp only [rvC, List.mem_cons, List.not_mem_nil, or_false] at h
  rcases h with rfl | rfl | rfl <;> rfl
theorem rvC_len : ∀ L : List R3, (L.flatMap rvC).length = L.length * 3
  | [] => rfl
  | t :: l => by
    rw [List.flatMap_cons, List.length_append, rvC_len l, List.length_cons]
    show 3 + _ = _
    omega
theorem chunk_rv : ∀ L : List R3, chunk true 3 L.length (L.flatMap rvC) = L.map rvV
  | [] => rfl
  | t :: l => by
    have := chunk_rv l
    simp only [List.length_cons, List.flatMap_cons, List.map_cons, chunk]
    rw [show (rvC t ++ l.flatMap rvC).drop 3 = l.flatMap rvC from rfl, this]
    rfl
theorem rvW_p1 : ∀ L : List R3, p1 (rvW L) = true
  | [] => rfl
  | _ :: _ => rfl
theorem someREV : Tryz.f8.body.isSome = true := by kernel_rfl
theorem rev_fn (zs : List Int) {d : Int} (h0 : 0 ≤ d) (h1 : d ≤ 100000) : ∃ L e, L.length ≤ 4 ∧ (∀ t ∈ L, inId t.1 = true) ∧ d ≤ e ∧ e ≤ d + 15 ∧ FnOK 1 Tryz.prog 8 ⟨[.pointer (some ⟨0, 0, none⟩)]⟩ (Ev.h1 (strm (intsV zs) d)) (fun u g => u = rvW L ∧ g.get 0 = some (strm (intsV zs) e)) := by
  obtain ⟨L, e, g1, g2, g3, g4, hL⟩ := rv_ex zs [⟨#[116, 48]⟩, ⟨#[116, 49]⟩, ⟨#[116, 50]⟩] [] d (by
    intro s hs
    simp only [List.mem_cons, List.not_mem_nil, or_false] at hs
    rcases hs with rfl | rfl | rfl <;> exact inId_iff.2 (by simp)) (fun t ht => (by cases ht)) (by decide) h0 (by simp only [List.length_cons, List.length_nil]; omega)
  simp only [List.length_cons, List.length_nil] at g4
  have hF := FnOK.ftree (p := 1) SI_ok mixed Tryz.func8 someREV (rve (intsV zs) d (fun s o b => s = rvS L ∧ o = some (strm (intsV zs) e) ∧ b = rvB L)) (hL _ ⟨rfl, rfl, rfl⟩)
  refine ⟨L, e, g1, g2, g3, by omega, ?_⟩
  match L with
  | [] =>
    refine hF.mono ?_
    rintro v g ⟨q1, q2, _⟩
    exact ⟨slN_f q1, q2⟩
  | t :: l =>
    refine FnOK.weak1 (hF.mono ?_)
    rintro v g ⟨q1, q2, q3⟩
    obtain ⟨b, rfl, hb⟩ := slN_t q1
    rw [hb] at q3
    have hb0 : b ≠ 0 := by
      rintro rfl
      rw [q2] at q3
      simp only [rvB, Option.some.injEq, strm, Obj.cells.injEq, List.flatMap_cons, rvC] at q3
      obtain ⟨q4, _⟩ := q3
      simp [fz] at q4
    have hW := freezeW (p := 1) (P := Tryz.prog) (m := (t :: l).length) 3 ((t :: l).flatMap rvC) rfl (by rw [rvC_len]; exact Nat.le_refl _) (rvC_p1 _) q3
    rw [chunk_rv] at hW
    exact ⟨_, _, hW, rfl, (del_ne (Ne.symm hb0)).trans q2⟩
/-! CheckRevoked -/
theorem someKYt : Tryz.f39.body.isSome = true := by kernel_rfl
noncomputable def ikV (s : ByteArray) : Bool := !tq [.string s] [.string ⟨#[]⟩]
theorem ik0 (Q : Value → Prop) : ffn Tryz.prog SC0 [] 2000 [] Tryz.f39 [.string ⟨#[116, 48]⟩] h0 (fun v _ => Q v) = Q (.bool true) := by kernel_rfl
theorem ik1 (Q : Value → Prop) : ffn Tryz.prog SC0 [] 2000 [] Tryz.f39 [.string ⟨#[116, 49]⟩] h0 (fun v _ => Q v) = Q (.bool true) := by kernel_rfl
theorem ik2 (Q : Value → Prop) : ffn Tryz.prog SC0 [] 2000 [] Tryz.f39 [.string ⟨#[116, 50]⟩] h0 (fun v _ => Q v) = Q (.bool true) := by kernel_rfl
theorem ik3 (Q : Value → Prop) : ffn Tryz.prog SC0 [] 2000 [] Tryz.f39 [.string ⟨#[]⟩] h0 (fun v _ => Q v) = Q (.bool false) := by kernel_rfl
theorem ik4 (Q : Value → Prop) : ffn Tryz.prog SC0 [] 2000 [] Tryz.f39 [.string ⟨#[116, 57]⟩] h0 (fun v _ => Q v) = Q (.bool true) := by kernel_rfl
theorem ikV_ne {s : ByteArray} (h : s ≠ ⟨#[]⟩) : ikV s = true := by
  unfold ikV
  have : tq [.string s] [.string ⟨#[]⟩] = false := by
    cases hq : tq [.string s] [.string ⟨#[]⟩] with
    | false => rfl
    | true => have := tq_iff hq; simp at this; exact absurd this h
  rw [this]; rfl
theorem ikV_em : ikV ⟨#[]⟩ = false := by
  unfold ikV
  rw [tq_eq rfl]; rfl
noncomputable def spIk (f : FuncId) (args : Array Value) (h : AH) : Option (Bool × Value × AH) :=
  cond (Nat.beq f 39) (match args with
    | ⟨[.string s]⟩ => some (inId s, .bool (ikV s), h)
    | _ => none) none
theorem spIk_ok : SpOK spIk := by
  intro f args h v h' hs
  unfold spIk at hs
  obtain ⟨hf, hs2⟩ := cond_some hs
  clear hs
  have := Nat.eq_of_beq_eq_true hf
  subst this
  split at hs2
  · injection hs2 with hs
    injection hs with hb hs
    injection hs with hv hh
    subst hv hh
    rename_i s
    rcases inId_iff.1 hb with rfl | rfl | rfl | rfl | rfl
    · rw [ikV_ne (by decide)]; exact ⟨FnOK.pure (FnOK.ftree SC0_ok mixed Tryz.func39 someKYt (ik0 (fun v => v = .bool true)) rfl) rfl rfl h, Nat.le_refl _⟩
    · rw [ikV_ne (by decide)]; exact ⟨FnOK.pure (FnOK.ftree SC0_ok mixed Tryz.func39 someKYt (ik1 (fun v => v = .bool true)) rfl) rfl rfl h, Nat.le_refl _⟩
    · rw [ikV_ne (by decide)]; exact ⟨FnOK.pure (FnOK.ftree SC0_ok mixed Tryz.func39 someKYt (ik2 (fun v => v = .bool true)) rfl) rfl rfl h, Nat.le_refl _⟩
    · rw [ikV_em]; exact ⟨FnOK.pure (FnOK.ftree SC0_ok mixed Tryz.func39 someKYt (ik3 (fun v => v = .bool false)) rfl) rfl rfl h, Nat.le_refl _⟩
    · rw [ikV_ne (by decide)]; exact ⟨FnOK.pure (FnOK.ftree SC0_ok mixed Tryz.func39 someKYt (ik4 (fun v => v = .bool true)) rfl) rfl rfl h, Nat.le_refl _⟩
  · cases hs2
noncomputable def SCr : SC := ⟨idn, spIk, false, true⟩
theorem SCr_ok : SCr.cfg.OK Tryz.prog := spIk_ok.cfg
end Go.Proofs.YtklednomnpghcaaGreatDoor
