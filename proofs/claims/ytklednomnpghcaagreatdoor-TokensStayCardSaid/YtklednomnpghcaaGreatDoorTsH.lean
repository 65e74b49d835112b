/-
  Tokens stay: claims as they are drawn, at any place of the stream.
-/
import Derived.Test.YtklednomnpghcaaGreatDoorTsG
namespace Go.Proofs.YtklednomnpghcaaGreatDoor
open Go.Ev Go.RowKit ScopeLaw

/-- The draw of which the place is told by the heap. -/
noncomputable def spNt (K : Nat) (ka : Int) (f : FuncId) (args : Array Value) (h : AH) : Option (Bool × Value × AH) :=
  cond (Nat.beq h.next K) (match spNext [] f args h with
    | some (b, .int .i64 r, h') => some (b && decide (r = ka), .int .i64 ka, h')
    | _ => none) (spNext [] f args h)
theorem spNt_ok (K : Nat) (ka : Int) : SpOK (spNt K ka) := by
  intro f args h v h' hs
  unfold spNt at hs
  cases hk : Nat.beq h.next K with
  | false => rw [hk] at hs; exact spNext_ok [] _ _ _ _ _ hs
  | true =>
    rw [hk] at hs
    simp only [cond_true] at hs
    split at hs
    · rename_i b r h2 hn
      injection hs with hs
      injection hs with hb hs
      injection hs with hv hh
      subst hv hh
      rw [Bool.and_eq_true, decide_eq_true_eq] at hb
      obtain ⟨rfl, rfl⟩ := hb
      exact spNext_ok [] _ _ _ _ _ hn
    · cases hs
noncomputable def SQd (ka : Int) (e : Bool) : SC := ⟨idn, spOr (spRT e) (spOr spLo (spNt 10 ka)), true, true⟩
theorem SQd_ok (ka : Int) (e : Bool) : (SQd ka e).cfg.OK Tryz.prog := ((spRT_ok e).or (spLo_ok.or (spNt_ok 10 ka))).cfg
noncomputable def rqId (xs : Array Value) (d : Int) : ByteArray := gS [Value.string ⟨#[116, 49]⟩, Value.string ⟨#[116, 49]⟩, Value.string ⟨#[116, 50]⟩, Value.string ⟨#[116, 51]⟩] (nextR xs d 4)
noncomputable def rqSub (xs : Array Value) (d : Int) : ByteArray := gS [Value.string ⟨#[97, 110, 110]⟩, Value.string ⟨#[98, 111, 98]⟩] (nextR xs (d + 1) 2)
noncomputable def rqIss (xs : Array Value) (d : Int) : ByteArray := gS [Value.string ⟨#[103, 97, 116, 101]⟩, Value.string ⟨#[103, 97, 116, 101]⟩, Value.string ⟨#[103, 97, 116, 101]⟩, Value.string ⟨#[111, 116, 104, 101, 114]⟩] (nextR xs (d + 1 + 1) 4)
noncomputable def rqPar (xs : Array Value) (d : Int) : ByteArray := gS [Value.string ⟨#[]⟩, Value.string ⟨#[]⟩, Value.string ⟨#[]⟩, Value.string ⟨#[116, 48]⟩, Value.string ⟨#[116, 50]⟩] (nextR xs (d + 1 + 1 + 1) 5)
noncomputable def rqFr (xs : Array Value) (d : Int) : Int := gIt [Value.int IntKind.i64 0, Value.int IntKind.i64 50, Value.int IntKind.i64 100] (nextR xs (scE xs (d + 1 + 1 + 1 + 1 + 1)) 3)
noncomputable def rqTo (xs : Array Value) (d : Int) : Int := IntKind.i64.wrap (rqFr xs d + gIt [Value.int IntKind.i64 1, Value.int IntKind.i64 50, Value.int IntKind.i64 100, Value.int IntKind.i64 200] (nextR xs (scE xs (d + 1 + 1 + 1 + 1 + 1) + 1) 4))
noncomputable def rqP (xs : Array Value) (d ka : Int) (e : Bool) (Z : Prop) : Prop :=
  dw xs d 4 (dw xs (d + 1) 2 (dw xs (d + 1 + 1) 4 (dw xs (d + 1 + 1 + 1) 5 (bif (Nat.beq 25 25 && decide (0 ≤ (d + 1 + 1 + 1 + 1)) && decide ((d + 1 + 1 + 1 + 1) ≤ 1000000) && decide ((1 : Int) ≤ 5) && decide ((5 : Int) ≤ 1000000000000) && true && allInts xs) && decide (nextR xs (d + 1 + 1 + 1 + 1) 5 = ka) then
    bif Nat.beq 25 25 && decide (0 ≤ (d + 1 + 1 + 1 + 1 + 1)) && decide ((d + 1 + 1 + 1 + 1 + 1) ≤ 100000) && (decide (nextR xs (d + 1 + 1 + 1 + 1 + 1) 5 = 0) == e) && allInts xs then
    bif okLe (scD e (scL xs (d + 1 + 1 + 1 + 1 + 1))) then dw xs (scE xs (d + 1 + 1 + 1 + 1 + 1)) 3 (dw xs (scE xs (d + 1 + 1 + 1 + 1 + 1) + 1) 4 Z) else False else False else False))))
theorem rq0N (xs : Array Value) (d : Int) (Q : Value → Option Obj → Option Obj → Prop) : ffn Tryz.prog (SQd 0 true) [] 3000 [] Tryz.f7 [.pointer (some ⟨0, 0, none⟩)] (Ev.h1 (strm xs d)) (fun v h => Q v (h.get 0) (h.get (blkA v))) =
    rqP xs d 0 true (Q (.agg ⟨[.string (rqId xs d), .string (rqSub xs d), .string (rqIss xs d), .string (rqPar xs d), .slice none 0 0, leV (scD true (scL xs (d + 1 + 1 + 1 + 1 + 1))), .int .i64 (rqFr xs d), .int .i64 (rqTo xs d)]⟩) (some (strm xs (scE xs (d + 1 + 1 + 1 + 1 + 1) + 1 + 1))) (some (strm xs (scE xs (d + 1 + 1 + 1 + 1 + 1) + 1 + 1)))) := by kernel_rfl
theorem rq0S (xs : Array Value) (d : Int) (Q : Value → Option Obj → Option Obj → Prop) : ffn Tryz.prog (SQd 0 false) [] 3000 [] Tryz.f7 [.pointer (some ⟨0, 0, none⟩)] (Ev.h1 (strm xs d)) (fun v h => Q v (h.get 0) (h.get (blkA v))) =
    rqP xs d 0 false (Q (.agg ⟨[.string (rqId xs d), .string (rqSub xs d), .string (rqIss xs d), .string (rqPar xs d), .slice none 0 0, leV (scD false (scL xs (d + 1 + 1 + 1 + 1 + 1))), .int .i64 (rqFr xs d), .int .i64 (rqTo xs d)]⟩) (some (strm xs (scE xs (d + 1 + 1 + 1 + 1 + 1) + 1 + 1))) (some (strm xs (scE xs (d + 1 + 1 + 1 + 1 + 1) + 1 + 1)))) := by kernel_rfl
theorem rq1N (xs : Array Value) (d : Int) (Q : Value → Option Obj → Option Obj → Prop) : ffn Tryz.prog (SQd 1 true) [] 3000 [] Tryz.f7 [.pointer (some ⟨0, 0, none⟩)] (Ev.h1 (strm xs d)) (fun v h => Q v (h.get 0) (h.get (blkA v))) =
    rqP xs d 1 true (Q (.agg ⟨[.string (rqId xs d), .string (rqSub xs d), .string (rqIss xs d), .string (rqPar xs d), .slice none 0 0, leV (scD true (scL xs (d + 1 + 1 + 1 + 1 + 1))), .int .i64 (rqFr xs d), .int .i64 (rqTo xs d)]⟩) (some (strm xs (scE xs (d + 1 + 1 + 1 + 1 + 1) + 1 + 1))) (some (strm xs (scE xs (d + 1 + 1 + 1 + 1 + 1) + 1 + 1)))) := by kernel_rfl
theorem rq1S (xs : Array Value) (d : Int) (Q : Value → Option Obj → Option Obj → Prop) : ffn Tryz.prog (SQd 1 false) [] 3000 [] Tryz.f7 [.pointer (some ⟨0, 0, none⟩)] (Ev.h1 (strm xs d)) (fun v h => Q v (h.get 0) (h.get (blkA v))) =
    rqP xs d 1 false (Q (.agg ⟨[.string (rqId xs d), .string (rqSub xs d), .string (rqIss xs d), .string (rqPar xs d), .slice none 0 0, leV (scD false (scL xs (d + 1 + 1 + 1 + 1 + 1))), .int .i64 (rqFr xs d), .int .i64 (rqTo xs d)]⟩) (some (strm xs (scE xs (d + 1 + 1 + 1 + 1 + 1) + 1 + 1))) (some (strm xs (scE xs (d + 1 + 1 + 1 + 1 + 1) + 1 + 1)))) := by kernel_rfl
theorem rq2N (xs : Array Value) (d : Int) (Q : Value → Option Obj → Option Obj → Prop) : ffn Tryz.prog (SQd 2 true) [] 3000 [] Tryz.f7 [.pointer (some ⟨0, 0, none⟩)] (Ev.h1 (strm xs d)) (fun v h => Q v (h.get 0) (h.get (blkA v))) =
    rqP xs d 2 true (Q (.agg ⟨[.string (rqId xs d), .string (rqSub xs d), .string (rqIss xs d), .string (rqPar xs d), .slice (some ⟨6, 0, none⟩) 1 1, leV (scD true (scL xs (d + 1 + 1 + 1 + 1 + 1))), .int .i64 (rqFr xs d), .int .i64 (rqTo xs d)]⟩) (some (strm xs (scE xs (d + 1 + 1 + 1 + 1 + 1) + 1 + 1))) (some (.cells ⟨[scp [115, 104, 111, 112]]⟩ 9 (0, 0)))) := by kernel_rfl
theorem rq2S (xs : Array Value) (d : Int) (Q : Value → Option Obj → Option Obj → Prop) : ffn Tryz.prog (SQd 2 false) [] 3000 [] Tryz.f7 [.pointer (some ⟨0, 0, none⟩)] (Ev.h1 (strm xs d)) (fun v h => Q v (h.get 0) (h.get (blkA v))) =
    rqP xs d 2 false (Q (.agg ⟨[.string (rqId xs d), .string (rqSub xs d), .string (rqIss xs d), .string (rqPar xs d), .slice (some ⟨6, 0, none⟩) 1 1, leV (scD false (scL xs (d + 1 + 1 + 1 + 1 + 1))), .int .i64 (rqFr xs d), .int .i64 (rqTo xs d)]⟩) (some (strm xs (scE xs (d + 1 + 1 + 1 + 1 + 1) + 1 + 1))) (some (.cells ⟨[scp [115, 104, 111, 112]]⟩ 9 (0, 0)))) := by kernel_rfl
theorem rq3N (xs : Array Value) (d : Int) (Q : Value → Option Obj → Option Obj → Prop) : ffn Tryz.prog (SQd 3 true) [] 3000 [] Tryz.f7 [.pointer (some ⟨0, 0, none⟩)] (Ev.h1 (strm xs d)) (fun v h => Q v (h.get 0) (h.get (blkA v))) =
    rqP xs d 3 true (Q (.agg ⟨[.string (rqId xs d), .string (rqSub xs d), .string (rqIss xs d), .string (rqPar xs d), .slice (some ⟨7, 0, none⟩) 2 2, leV (scD true (scL xs (d + 1 + 1 + 1 + 1 + 1))), .int .i64 (rqFr xs d), .int .i64 (rqTo xs d)]⟩) (some (strm xs (scE xs (d + 1 + 1 + 1 + 1 + 1) + 1 + 1))) (some (.cells ⟨[scp [109, 97, 112, 115], scp [115, 104, 111, 112]]⟩ 9 (0, 0)))) := by kernel_rfl
theorem rq3S (xs : Array Value) (d : Int) (Q : Value → Option Obj → Option Obj → Prop) : ffn Tryz.prog (SQd 3 false) [] 3000 [] Tryz.f7 [.pointer (some ⟨0, 0, none⟩)] (Ev.h1 (strm xs d)) (fun v h => Q v (h.get 0) (h.get (blkA v))) =
    rqP xs d 3 false (Q (.agg ⟨[.string (rqId xs d), .string (rqSub xs d), .string (rqIss xs d), .string (rqPar xs d), .slice (some ⟨7, 0, none⟩) 2 2, leV (scD false (scL xs (d + 1 + 1 + 1 + 1 + 1))), .int .i64 (rqFr xs d), .int .i64 (rqTo xs d)]⟩) (some (strm xs (scE xs (d + 1 + 1 + 1 + 1 + 1) + 1 + 1))) (some (.cells ⟨[scp [109, 97, 112, 115], scp [115, 104, 111, 112]]⟩ 9 (0, 0)))) := by kernel_rfl
theorem rq4N (xs : Array Value) (d : Int) (Q : Value → Option Obj → Option Obj → Prop) : ffn Tryz.prog (SQd 4 true) [] 3000 [] Tryz.f7 [.pointer (some ⟨0, 0, none⟩)] (Ev.h1 (strm xs d)) (fun v h => Q v (h.get 0) (h.get (blkA v))) =
    rqP xs d 4 true (Q (.agg ⟨[.string (rqId xs d), .string (rqSub xs d), .string (rqIss xs d), .string (rqPar xs d), .slice (some ⟨8, 0, none⟩) 1 1, leV (scD true (scL xs (d + 1 + 1 + 1 + 1 + 1))), .int .i64 (rqFr xs d), .int .i64 (rqTo xs d)]⟩) (some (strm xs (scE xs (d + 1 + 1 + 1 + 1 + 1) + 1 + 1))) (some (.cells ⟨[scp [109, 97, 112, 115]]⟩ 9 (0, 0)))) := by kernel_rfl
theorem rq4S (xs : Array Value) (d : Int) (Q : Value → Option Obj → Option Obj → Prop) : ffn Tryz.prog (SQd 4 false) [] 3000 [] Tryz.f7 [.pointer (some ⟨0, 0, none⟩)] (Ev.h1 (strm xs d)) (fun v h => Q v (h.get 0) (h.get (blkA v))) =
    rqP xs d 4 false (Q (.agg ⟨[.string (rqId xs d), .string (rqSub xs d), .string (rqIss xs d), .string (rqPar xs d), .slice (some ⟨8, 0, none⟩) 1 1, leV (scD false (scL xs (d + 1 + 1 + 1 + 1 + 1))), .int .i64 (rqFr xs d), .int .i64 (rqTo xs d)]⟩) (some (strm xs (scE xs (d + 1 + 1 + 1 + 1 + 1) + 1 + 1))) (some (.cells ⟨[scp [109, 97, 112, 115]]⟩ 9 (0, 0)))) := by kernel_rfl
theorem rqP_ok (zs : List Int) {d ka : Int} {e : Bool} (h0 : 0 ≤ d) (h1 : d ≤ 1000) (hk : nextR (intsV zs) (d + 1 + 1 + 1 + 1) 5 = ka) (he : decide (nextR (intsV zs) (d + 1 + 1 + 1 + 1 + 1) 5 = 0) = e) {Z : Prop} (hZ : Z) : rqP (intsV zs) d ka e Z := by
  have hi := allInts_intsV zs
  have h5 := scE_in zs (d := (d + 1 + 1 + 1 + 1 + 1)) (by omega) (by omega)
  have hs := rsW_ok zs (d := (d + 1 + 1 + 1 + 1 + 1)) (by omega) (by omega)
  have ew : rsW (intsV zs) (d + 1 + 1 + 1 + 1 + 1) = scD e (scL (intsV zs) (d + 1 + 1 + 1 + 1 + 1)) := by
    subst he
    unfold rsW
    by_cases h : nextR (intsV zs) (d + 1 + 1 + 1 + 1 + 1) 5 = 0
    · rw [if_pos h, decide_eq_true h]; rfl
    · rw [if_neg h, decide_eq_false h]; rfl
  rw [ew] at hs
  refine dw_ok zs (by omega) (by omega) (by omega) (by omega) (dw_ok zs (by omega) (by omega) (by omega) (by omega) (dw_ok zs (by omega) (by omega) (by omega) (by omega) (dw_ok zs (by omega) (by omega) (by omega) (by omega)
    (need_mk ?_ (need_mk ?_ (need_mk (okScs_le hs) (dw_ok zs (by omega) (by omega) (by omega) (by omega) (dw_ok zs (by omega) (by omega) (by omega) (by omega) hZ))))))))
  · rw [hk, hi, decide_eq_true (by omega : 0 ≤ (d + 1 + 1 + 1 + 1)), decide_eq_true (by omega : (d + 1 + 1 + 1 + 1) ≤ 1000000), decide_eq_true rfl]; rfl
  · rw [he, hi, decide_eq_true (by omega : 0 ≤ (d + 1 + 1 + 1 + 1 + 1)), decide_eq_true (by omega : (d + 1 + 1 + 1 + 1 + 1) ≤ 100000)]; cases e <;> rfl
noncomputable def rqV (xs : Array Value) (d : Int) : Value := .agg ⟨[.string (rqId xs d), .string (rqSub xs d), .string (rqIss xs d), .string (rqPar xs d), wAud (nextR xs (d + 1 + 1 + 1 + 1) 5), leV (rsW xs (d + 1 + 1 + 1 + 1 + 1)), .int .i64 (rqFr xs d), .int .i64 (rqTo xs d)]⟩
theorem rq_fn (zs : List Int) {d : Int} (h0 : 0 ≤ d) (h1 : d ≤ 1000) : FnOK 1 Tryz.prog 7 ⟨[.pointer (some ⟨0, 0, none⟩)]⟩ (Ev.h1 (strm (intsV zs) d)) (fun u g => u = rqV (intsV zs) d ∧ g.get 0 = some (strm (intsV zs) (scE (intsV zs) (d + 1 + 1 + 1 + 1 + 1) + 1 + 1))) := by
  have hb := (nextR_spec zs 5 (d + 1 + 1 + 1 + 1) (by omega) (by omega) (by omega) (by omega)).1
  have hc : nextR (intsV zs) (d + 1 + 1 + 1 + 1) 5 = 0 ∨ nextR (intsV zs) (d + 1 + 1 + 1 + 1) 5 = 1 ∨ nextR (intsV zs) (d + 1 + 1 + 1 + 1) 5 = 2 ∨ nextR (intsV zs) (d + 1 + 1 + 1 + 1) 5 = 3 ∨ nextR (intsV zs) (d + 1 + 1 + 1 + 1) 5 = 4 := by omega
  by_cases h : nextR (intsV zs) (d + 1 + 1 + 1 + 1 + 1) 5 = 0
  · have he := decide_eq_true h
    have ew : rsW (intsV zs) (d + 1 + 1 + 1 + 1 + 1) = .slice none 0 0 := by rw [rsW, if_pos h]
    rcases hc with hk | hk | hk | hk | hk
    · refine (FnOK.ftree (p := 1) (SQd_ok 0 true) mixed Tryz.func7 someRC (rq0N (intsV zs) d (fun v o _ => v = rqV (intsV zs) d ∧ o = some (strm (intsV zs) (scE (intsV zs) (d + 1 + 1 + 1 + 1 + 1) + 1 + 1)))) (rqP_ok zs h0 h1 hk he ⟨?_, rfl⟩)).mono fun v g q => q
      simp only [rqV, hk, ew]; rfl
    · refine (FnOK.ftree (p := 1) (SQd_ok 1 true) mixed Tryz.func7 someRC (rq1N (intsV zs) d (fun v o _ => v = rqV (intsV zs) d ∧ o = some (strm (intsV zs) (scE (intsV zs) (d + 1 + 1 + 1 + 1 + 1) + 1 + 1)))) (rqP_ok zs h0 h1 hk he ⟨?_, rfl⟩)).mono fun v g q => q
      simp only [rqV, hk, ew]; rfl
    · refine FnOK.weak1 ((FnOK.ftree (p := 1) (SQd_ok 2 true) mixed Tryz.func7 someRC (rq2N (intsV zs) d (fun v o q => v = .agg ⟨[.string (rqId (intsV zs) d), .string (rqSub (intsV zs) d), .string (rqIss (intsV zs) d), .string (rqPar (intsV zs) d), .slice (some ⟨6, 0, none⟩) 1 1, leV (scD true (scL (intsV zs) (d + 1 + 1 + 1 + 1 + 1))), .int .i64 (rqFr (intsV zs) d), .int .i64 (rqTo (intsV zs) d)]⟩ ∧ o = some (strm (intsV zs) (scE (intsV zs) (d + 1 + 1 + 1 + 1 + 1) + 1 + 1)) ∧ q = some (.cells ⟨[[115, 104, 111, 112]].map scp⟩ 9 (0, 0)))) (rqP_ok zs h0 h1 hk he ⟨rfl, rfl, rfl⟩)).mono ?_)
      rintro v g ⟨rfl, q0, hb⟩
      refine ⟨_, _, freezeA _ [[115, 104, 111, 112]] rfl hb, ?_, (del_ne (i := 0) (b := 6) (by decide)).trans q0⟩
      simp only [rqV, hk, ew]; rfl
    · refine FnOK.weak1 ((FnOK.ftree (p := 1) (SQd_ok 3 true) mixed Tryz.func7 someRC (rq3N (intsV zs) d (fun v o q => v = .agg ⟨[.string (rqId (intsV zs) d), .string (rqSub (intsV zs) d), .string (rqIss (intsV zs) d), .string (rqPar (intsV zs) d), .slice (some ⟨7, 0, none⟩) 2 2, leV (scD true (scL (intsV zs) (d + 1 + 1 + 1 + 1 + 1))), .int .i64 (rqFr (intsV zs) d), .int .i64 (rqTo (intsV zs) d)]⟩ ∧ o = some (strm (intsV zs) (scE (intsV zs) (d + 1 + 1 + 1 + 1 + 1) + 1 + 1)) ∧ q = some (.cells ⟨[[109, 97, 112, 115], [115, 104, 111, 112]].map scp⟩ 9 (0, 0)))) (rqP_ok zs h0 h1 hk he ⟨rfl, rfl, rfl⟩)).mono ?_)
      rintro v g ⟨rfl, q0, hb⟩
      refine ⟨_, _, freezeA _ [[109, 97, 112, 115], [115, 104, 111, 112]] rfl hb, ?_, (del_ne (i := 0) (b := 7) (by decide)).trans q0⟩
      simp only [rqV, hk, ew]; rfl
    · refine FnOK.weak1 ((FnOK.ftree (p := 1) (SQd_ok 4 true) mixed Tryz.func7 someRC (rq4N (intsV zs) d (fun v o q => v = .agg ⟨[.string (rqId (intsV zs) d), .string (rqSub (intsV zs) d), .string (rqIss (intsV zs) d), .string (rqPar (intsV zs) d), .slice (some ⟨8, 0, none⟩) 1 1, leV (scD true (scL (intsV zs) (d + 1 + 1 + 1 + 1 + 1))), .int .i64 (rqFr (intsV zs) d), .int .i64 (rqTo (intsV zs) d)]⟩ ∧ o = some (strm (intsV zs) (scE (intsV zs) (d + 1 + 1 + 1 + 1 + 1) + 1 + 1)) ∧ q = some (.cells ⟨[[109, 97, 112, 115]].map scp⟩ 9 (0, 0)))) (rqP_ok zs h0 h1 hk he ⟨rfl, rfl, rfl⟩)).mono ?_)
      rintro v g ⟨rfl, q0, hb⟩
      refine ⟨_, _, freezeA _ [[109, 97, 112, 115]] rfl hb, ?_, (del_ne (i := 0) (b := 8) (by decide)).trans q0⟩
      simp only [rqV, hk, ew]; rfl
  · have he := decide_eq_false h
    have ew : rsW (intsV zs) (d + 1 + 1 + 1 + 1 + 1) = fz ⟨scL (intsV zs) (d + 1 + 1 + 1 + 1 + 1)⟩ := by rw [rsW, if_neg h]
    rcases hc with hk | hk | hk | hk | hk
    · refine (FnOK.ftree (p := 1) (SQd_ok 0 false) mixed Tryz.func7 someRC (rq0S (intsV zs) d (fun v o _ => v = rqV (intsV zs) d ∧ o = some (strm (intsV zs) (scE (intsV zs) (d + 1 + 1 + 1 + 1 + 1) + 1 + 1)))) (rqP_ok zs h0 h1 hk he ⟨?_, rfl⟩)).mono fun v g q => q
      simp only [rqV, hk, ew]; rfl
    · refine (FnOK.ftree (p := 1) (SQd_ok 1 false) mixed Tryz.func7 someRC (rq1S (intsV zs) d (fun v o _ => v = rqV (intsV zs) d ∧ o = some (strm (intsV zs) (scE (intsV zs) (d + 1 + 1 + 1 + 1 + 1) + 1 + 1)))) (rqP_ok zs h0 h1 hk he ⟨?_, rfl⟩)).mono fun v g q => q
      simp only [rqV, hk, ew]; rfl
    · refine FnOK.weak1 ((FnOK.ftree (p := 1) (SQd_ok 2 false) mixed Tryz.func7 someRC (rq2S (intsV zs) d (fun v o q => v = .agg ⟨[.string (rqId (intsV zs) d), .string (rqSub (intsV zs) d), .string (rqIss (intsV zs) d), .string (rqPar (intsV zs) d), .slice (some ⟨6, 0, none⟩) 1 1, leV (scD false (scL (intsV zs) (d + 1 + 1 + 1 + 1 + 1))), .int .i64 (rqFr (intsV zs) d), .int .i64 (rqTo (intsV zs) d)]⟩ ∧ o = some (strm (intsV zs) (scE (intsV zs) (d + 1 + 1 + 1 + 1 + 1) + 1 + 1)) ∧ q = some (.cells ⟨[[115, 104, 111, 112]].map scp⟩ 9 (0, 0)))) (rqP_ok zs h0 h1 hk he ⟨rfl, rfl, rfl⟩)).mono ?_)
      rintro v g ⟨rfl, q0, hb⟩
      refine ⟨_, _, freezeA _ [[115, 104, 111, 112]] rfl hb, ?_, (del_ne (i := 0) (b := 6) (by decide)).trans q0⟩
      simp only [rqV, hk, ew]; rfl
    · refine FnOK.weak1 ((FnOK.ftree (p := 1) (SQd_ok 3 false) mixed Tryz.func7 someRC (rq3S (intsV zs) d (fun v o q => v = .agg ⟨[.string (rqId (intsV zs) d), .string (rqSub (intsV zs) d), .string (rqIss (intsV zs) d), .string (rqPar (intsV zs) d), .slice (some ⟨7, 0, none⟩) 2 2, leV (scD false (scL (intsV zs) (d + 1 + 1 + 1 + 1 + 1))), .int .i64 (rqFr (intsV zs) d), .int .i64 (rqTo (intsV zs) d)]⟩ ∧ o = some (strm (intsV zs) (scE (intsV zs) (d + 1 + 1 + 1 + 1 + 1) + 1 + 1)) ∧ q = some (.cells ⟨[[109, 97, 112, 115], [115, 104, 111, 112]].map scp⟩ 9 (0, 0)))) (rqP_ok zs h0 h1 hk he ⟨rfl, rfl, rfl⟩)).mono ?_)
      rintro v g ⟨rfl, q0, hb⟩
      refine ⟨_, _, freezeA _ [[109, 97, 112, 115], [115, 104, 111, 112]] rfl hb, ?_, (del_ne (i := 0) (b := 7) (by decide)).trans q0⟩
      simp only [rqV, hk, ew]; rfl
    · refine FnOK.weak1 ((FnOK.ftree (p := 1) (SQd_ok 4 false) mixed Tryz.func7 someRC (rq4S (intsV zs) d (fun v o q => v = .agg ⟨[.string (rqId (intsV zs) d), .string (rqSub (intsV zs) d), .string (rqIss (intsV zs) d), .string (rqPar (intsV zs) d), .slice (some ⟨8, 0, none⟩) 1 1, leV (scD false (scL (intsV zs) (d + 1 + 1 + 1 + 1 + 1))), .int .i64 (rqFr (intsV zs) d), .int .i64 (rqTo (intsV zs) d)]⟩ ∧ o = some (strm (intsV zs) (scE (intsV zs) (d + 1 + 1 + 1 + 1 + 1) + 1 + 1)) ∧ q = some (.cells ⟨[[109, 97, 112, 115]].map scp⟩ 9 (0, 0)))) (rqP_ok zs h0 h1 hk he ⟨rfl, rfl, rfl⟩)).mono ?_)
      rintro v g ⟨rfl, q0, hb⟩
      refine ⟨_, _, freezeA _ [[109, 97, 112, 115]] rfl hb, ?_, (del_ne (i := 0) (b := 8) (by decide)).trans q0⟩
      simp only [rqV, hk, ew]; rfl
theorem okScs_sc {a : Value} (h : okScs a = true) : okSc (leV a) = true := by
  unfold okScs at h
  split at h
  · rfl
  · rename_i vs
    rw [Bool.and_eq_true, Nat.ble_eq] at h
    refine lstB_iff.2 ?_
    obtain ⟨n1, n4⟩ := fourR_nine h.1
    obtain ⟨_, hin, _, _⟩ := nineR_ok n1
    have hlen : (leastV vs).length ≤ 4 := by
      unfold leastV leastR
      rw [List.length_map]
      refine Nat.le_trans (List.length_filter_le _ _) ?_
      have := cut_le (srt (vs.map unS))
      rw [srt_len, List.length_map] at this
      exact Nat.le_trans this n4
    refine ⟨?_, ?_, ?_⟩
    · simp only [fourR, Bool.and_eq_true, Nat.ble_eq]
      refine ⟨?_, hlen⟩
      have hn : nineR (leastV vs) = true := nineR_mk (fun x hx => hin x ((rising_mem _ x).1 (mem_least.1 hx).1)) (by
        have : (leastV vs).length = (leastR (vs.map unS)).length := by unfold leastV; rw [List.length_map]
        omega)
      simp only [nineR, Bool.and_eq_true] at hn
      exact hn.1
    · have hne := leastR_ne (fun x hx => nine_ten x (hin x hx)) (l := vs.map unS) (by intro q; rw [List.map_eq_nil_iff] at q; rw [q] at h; simp at h)
      unfold leastV
      rw [List.length_map]
      exact List.length_pos_iff.2 hne
    · unfold leastV
      rw [un_map, least_idem]
  · cases h
/-- Claims, by what they hold. -/
def clm (i s g p : ByteArray) (A S : Value) (f t : Int) : Value := .agg ⟨[.string i, .string s, .string g, .string p, A, S, .int .i64 f, .int .i64 t]⟩
def ClmOK (i s g p : ByteArray) (A S : Value) (f t : Int) : Prop := (i = ⟨#[116, 49]⟩ ∨ i = ⟨#[116, 50]⟩ ∨ i = ⟨#[116, 51]⟩) ∧ (s = ⟨#[97, 110, 110]⟩ ∨ s = ⟨#[98, 111, 98]⟩) ∧ (g = ⟨#[103, 97, 116, 101]⟩ ∨ g = ⟨#[111, 116, 104, 101, 114]⟩) ∧ (p = ⟨#[]⟩ ∨ p = ⟨#[116, 48]⟩ ∨ p = ⟨#[116, 50]⟩) ∧ okAud A = true ∧ okSc S = true ∧ 0 ≤ f ∧ f < t ∧ t ≤ 1000
theorem gS2 {a b : ByteArray} {r : Int} (h0 : 0 ≤ r) (h1 : r < 2) : gS [.string a, .string b] r = a ∨ gS [.string a, .string b] r = b := by
  have h : r = 0 ∨ r = 1 := by omega
  rcases h with rfl | rfl
  · exact .inl rfl
  · exact .inr rfl
theorem gS4 {a b c e : ByteArray} {r : Int} (h0 : 0 ≤ r) (h1 : r < 4) : gS [.string a, .string b, .string c, .string e] r = a ∨ gS [.string a, .string b, .string c, .string e] r = b ∨ gS [.string a, .string b, .string c, .string e] r = c ∨ gS [.string a, .string b, .string c, .string e] r = e := by
  have h : r = 0 ∨ r = 1 ∨ r = 2 ∨ r = 3 := by omega
  rcases h with rfl | rfl | rfl | rfl
  · exact .inl rfl
  · exact .inr (.inl rfl)
  · exact .inr (.inr (.inl rfl))
  · exact .inr (.inr (.inr rfl))
theorem gS5 {a b c e f : ByteArray} {r : Int} (h0 : 0 ≤ r) (h1 : r < 5) : gS [.string a, .string b, .string c, .string e, .string f] r = a ∨ gS [.string a, .string b, .string c, .string e, .string f] r = b ∨ gS [.string a, .string b, .string c, .string e, .string f] r = c ∨ gS [.string a, .string b, .string c, .string e, .string f] r = e ∨ gS [.string a, .string b, .string c, .string e, .string f] r = f := by
  have h : r = 0 ∨ r = 1 ∨ r = 2 ∨ r = 3 ∨ r = 4 := by omega
  rcases h with rfl | rfl | rfl | rfl | rfl
  · exact .inl rfl
  · exact .inr (.inl rfl)
  · exact .inr (.inr (.inl rfl))
  · exact .inr (.inr (.inr (.inl rfl)))
  · exact .inr (.inr (.inr (.inr rfl)))
theorem gI3 {a b c r : Int} (h0 : 0 ≤ r) (h1 : r < 3) : gIt [.int .i64 a, .int .i64 b, .int .i64 c] r = a ∨ gIt [.int .i64 a, .int .i64 b, .int .i64 c] r = b ∨ gIt [.int .i64 a, .int .i64 b, .int .i64 c] r = c := by
  have h : r = 0 ∨ r = 1 ∨ r = 2 := by omega
  rcases h with rfl | rfl | rfl
  · exact .inl rfl
  · exact .inr (.inl rfl)
  · exact .inr (.inr rfl)
theorem wAud_ok (r : Int) : okAud (wAud r) = true := by
  unfold wAud
  split
  · exact audB_iff.2 (by simp [audL])
  · split
    · exact audB_iff.2 (by simp [audL])
    · split
      · exact audB_iff.2 (by simp [audL])
      · rfl
theorem rcl_fn (zs : List Int) {d : Int} (h0 : 0 ≤ d) (h1 : d ≤ 1000) : ∃ i s g p A S f t e, ClmOK i s g p A S f t ∧ d ≤ e ∧ e ≤ d + 12 ∧ FnOK 1 Tryz.prog 7 ⟨[.pointer (some ⟨0, 0, none⟩)]⟩ (Ev.h1 (strm (intsV zs) d)) (fun u o => u = clm i s g p A S f t ∧ o.get 0 = some (strm (intsV zs) e)) := by
  have h5 := scE_in zs (d := (d + 1 + 1 + 1 + 1 + 1)) (by omega) (by omega)
  have b1 := (nextR_spec zs 4 d h0 (by omega) (by omega) (by omega)).1
  have b2 := (nextR_spec zs 2 (d + 1) (by omega) (by omega) (by omega) (by omega)).1
  have b3 := (nextR_spec zs 4 (d + 1 + 1) (by omega) (by omega) (by omega) (by omega)).1
  have b4 := (nextR_spec zs 5 (d + 1 + 1 + 1) (by omega) (by omega) (by omega) (by omega)).1
  have b5 := (nextR_spec zs 3 (scE (intsV zs) (d + 1 + 1 + 1 + 1 + 1)) (by omega) (by omega) (by omega) (by omega)).1
  have b6 := (nextR_spec zs 4 (scE (intsV zs) (d + 1 + 1 + 1 + 1 + 1) + 1) (by omega) (by omega) (by omega) (by omega)).1
  have g5 := gI3 (a := 0) (b := 50) (c := 100) b5.1 b5.2
  have g6 := gI4 (a := 1) (b := 50) (c := 100) (e := 200) b6.1 b6.2
  refine ⟨_, _, _, _, _, _, _, _, _, ⟨?_, ?_, ?_, ?_, wAud_ok (nextR (intsV zs) (d + 1 + 1 + 1 + 1) 5), okScs_sc (rsW_ok zs (d := (d + 1 + 1 + 1 + 1 + 1)) (by omega) (by omega)), ?_⟩, ?_, ?_, rq_fn zs h0 h1⟩
  · rcases gS4 (a := ⟨#[116, 49]⟩) (b := ⟨#[116, 49]⟩) (c := ⟨#[116, 50]⟩) (e := ⟨#[116, 51]⟩) b1.1 b1.2 with q | q | q | q
    · exact .inl q
    · exact .inl q
    · exact .inr (.inl q)
    · exact .inr (.inr q)
  · exact gS2 (a := ⟨#[97, 110, 110]⟩) (b := ⟨#[98, 111, 98]⟩) b2.1 b2.2
  · rcases gS4 (a := ⟨#[103, 97, 116, 101]⟩) (b := ⟨#[103, 97, 116, 101]⟩) (c := ⟨#[103, 97, 116, 101]⟩) (e := ⟨#[111, 116, 104, 101, 114]⟩) b3.1 b3.2 with q | q | q | q
    · exact .inl q
    · exact .inl q
    · exact .inl q
    · exact .inr q
  · rcases gS5 (a := ⟨#[]⟩) (b := ⟨#[]⟩) (c := ⟨#[]⟩) (e := ⟨#[116, 48]⟩) (f := ⟨#[116, 50]⟩) b4.1 b4.2 with q | q | q | q | q
    · exact .inl q
    · exact .inl q
    · exact .inl q
    · exact .inr (.inl q)
    · exact .inr (.inr q)
  · unfold rqTo rqFr
    generalize gIt [Value.int IntKind.i64 0, Value.int IntKind.i64 50, Value.int IntKind.i64 100] (nextR (intsV zs) (scE (intsV zs) (d + 1 + 1 + 1 + 1 + 1)) 3) = x at g5 ⊢
    generalize gIt [Value.int IntKind.i64 1, Value.int IntKind.i64 50, Value.int IntKind.i64 100, Value.int IntKind.i64 200] (nextR (intsV zs) (scE (intsV zs) (d + 1 + 1 + 1 + 1 + 1) + 1) 4) = y at g6 ⊢
    rw [wrap_id (x + y) (by omega) (by omega)]
    omega
  · omega
  · omega
end Go.Proofs.YtklednomnpghcaaGreatDoor
