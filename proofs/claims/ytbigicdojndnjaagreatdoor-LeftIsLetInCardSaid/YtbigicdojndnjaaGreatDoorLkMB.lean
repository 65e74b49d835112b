/-
  Limits: the rounds of one kind (B).
-/
import Derived.Test.YtbigicdojndnjaaGreatDoorLkM
import Derived.Test.YtbigicdojndnjaaGreatDoorLkB
namespace Go.Proofs.YtbigicdojndnjaaGreatDoor
open Go.Ev Go.RowKit LimLaw

theorem GB_up {p b t now : Int} (hn : now ≤ t) {j : Nat} {x : Int × Int} (h : GB p b now j x) : GB p b t (j + 1) x := ⟨h.1, Int.le_trans h.2.1 hn, h.2.2.1, h.2.2.2⟩
theorem GB0 {p b : Int} (hp : okPer p) (hb : okBu b) (_ : (0 : Int) ≤ 0) (j : Nat) : GB p b 0 j (0, IntKind.i64.wrap (b * p)) := by
  obtain ⟨_, _, _, _, f1, f2⟩ := full2 hp hb
  rw [wrap_id _ (by omega) (by omega)]
  exact ⟨Int.le_refl _, Int.le_refl _, by show 0 ≤ b * p; omega, Int.le_refl _⟩
def HB (xs : Array Value) (d m p b : Int) : Sh (Int × Int) → Int → AH
  | .e, t => hB_e_e xs d m p b t  t 
  | .a xa, t => hB_a_a xs d m p b t xa.1 xa.2 t xa.1 xa.2
  | .b xb, t => hB_b_b xs d m p b t xb.1 xb.2 t xb.1 xb.2
  | .ab xa xb, t => hB_ab_ab xs d m p b t xa.1 xa.2 xb.1 xb.2 t xa.1 xa.2 xb.1 xb.2
  | .ba xb xa, t => hB_ba_ba xs d m p b t xb.1 xb.2 xa.1 xa.2 t xb.1 xb.2 xa.1 xa.2
theorem uB_e_a {m p b : Int} (hm : okM m) (hp : okPer p) (hb : okBu b) (xs : Array Value) (d : Int) {ys : List Value} {at_ n i now t co lo : Int} (hA : At3 ys n i now (t, annB, co, lo)) {j : Nat} (hj : j ≤ 100) (hg : Sh.All ((GB p b) now j) (.e)) :
    ∃ s' : Sh (Int × Int), s'.All ((GB p b) t (j + 1)) ∧ ∀ (B : List Value → AH → Prop) (Q : AExit → List Value → AH → Prop), B (bV t ys n (IntKind.i64.wrap (i + 1))) (HB xs d m p b s' t) → once 0 Tryz.prog SLk [] (gh (t, annB, co, lo)) 3000 150 [3, 6, 8, 10, 60, 61, 62] [] [2, 3, 6, 8, 10] [] (oneLoop (codeOf Tryz.f4) 11) (bV at_ ys n i) (HB xs d m p b (.e) now) B Q := by
  obtain ⟨t0, t1, c0, c1, l0, l1⟩ := at3_in hA
  have hn : now ≤ t := hA.le
  rcases vB2_or (t := t) (x := 0) (y := IntKind.i64.wrap (b * p)) hm hp hb (i := j) (now := 0) (GB0 hp hb (by omega) j) t0 t1 c0 c1 with ⟨hG, h⟩ | ⟨w, h⟩
  · exact ⟨(.a (_, _)), hG, fun B Q hB => (rB_e_a xs ys d at_ n i m p b now t co lo  B Q).mpr (rnd3 hA (h _ _ (ak3 hA (h _ _ hB))))⟩
  · exact ⟨.e, trivial, fun B Q hB => (rB_e_a xs ys d at_ n i m p b now t co lo  B Q).mpr (rnd3 hA (h _ _ (ak3 hA (h _ _ (pick_f (eqv w) hB)))))⟩
theorem uB_e_b {m p b : Int} (hm : okM m) (hp : okPer p) (hb : okBu b) (xs : Array Value) (d : Int) {ys : List Value} {at_ n i now t co lo : Int} (hA : At3 ys n i now (t, bobB, co, lo)) {j : Nat} (hj : j ≤ 100) (hg : Sh.All ((GB p b) now j) (.e)) :
    ∃ s' : Sh (Int × Int), s'.All ((GB p b) t (j + 1)) ∧ ∀ (B : List Value → AH → Prop) (Q : AExit → List Value → AH → Prop), B (bV t ys n (IntKind.i64.wrap (i + 1))) (HB xs d m p b s' t) → once 0 Tryz.prog SLk [] (gh (t, bobB, co, lo)) 3000 150 [3, 6, 8, 10, 60, 61, 62] [] [2, 3, 6, 8, 10] [] (oneLoop (codeOf Tryz.f4) 11) (bV at_ ys n i) (HB xs d m p b (.e) now) B Q := by
  obtain ⟨t0, t1, c0, c1, l0, l1⟩ := at3_in hA
  have hn : now ≤ t := hA.le
  rcases vB2_or (t := t) (x := 0) (y := IntKind.i64.wrap (b * p)) hm hp hb (i := j) (now := 0) (GB0 hp hb (by omega) j) t0 t1 c0 c1 with ⟨hG, h⟩ | ⟨w, h⟩
  · exact ⟨(.b (_, _)), hG, fun B Q hB => (rB_e_b xs ys d at_ n i m p b now t co lo  B Q).mpr (rnd3 hA (h _ _ (ak3 hA (h _ _ hB))))⟩
  · exact ⟨.e, trivial, fun B Q hB => (rB_e_b xs ys d at_ n i m p b now t co lo  B Q).mpr (rnd3 hA (h _ _ (ak3 hA (h _ _ (pick_f (eqv w) hB)))))⟩
theorem uB_a_a {m p b : Int} (hm : okM m) (hp : okPer p) (hb : okBu b) (xs : Array Value) (d : Int) {ys : List Value} {at_ n i now t co lo : Int} (xa : Int × Int) (hA : At3 ys n i now (t, annB, co, lo)) {j : Nat} (hj : j ≤ 100) (hg : Sh.All ((GB p b) now j) (.a xa)) :
    ∃ s' : Sh (Int × Int), s'.All ((GB p b) t (j + 1)) ∧ ∀ (B : List Value → AH → Prop) (Q : AExit → List Value → AH → Prop), B (bV t ys n (IntKind.i64.wrap (i + 1))) (HB xs d m p b s' t) → once 0 Tryz.prog SLk [] (gh (t, annB, co, lo)) 3000 150 [3, 6, 8, 10, 60, 61, 62] [] [2, 3, 6, 8, 10] [] (oneLoop (codeOf Tryz.f4) 11) (bV at_ ys n i) (HB xs d m p b (.a xa) now) B Q := by
  obtain ⟨t0, t1, c0, c1, l0, l1⟩ := at3_in hA
  have hn : now ≤ t := hA.le
  rcases vB2_or (t := t) (x := xa.1) (y := xa.2) hm hp hb (i := j) (now := now) hg hn t1 c0 c1 with ⟨hG, h⟩ | ⟨w, h⟩
  · exact ⟨(.a (_, _)), hG, fun B Q hB => (rB_a_a xs ys d at_ n i m p b now t co lo xa.1 xa.2 B Q).mpr (rnd3 hA (h _ _ (ak3 hA (h _ _ hB))))⟩
  · exact ⟨.a xa, (GB_up (t := t) (now := now) (j := j) hn hg), fun B Q hB => (rB_a_a xs ys d at_ n i m p b now t co lo xa.1 xa.2 B Q).mpr (rnd3 hA (h _ _ (ak3 hA (h _ _ (pick_f (eqv w) hB)))))⟩
theorem uB_a_b {m p b : Int} (hm : okM m) (hp : okPer p) (hb : okBu b) (xs : Array Value) (d : Int) {ys : List Value} {at_ n i now t co lo : Int} (xa : Int × Int) (hA : At3 ys n i now (t, bobB, co, lo)) {j : Nat} (hj : j ≤ 100) (hg : Sh.All ((GB p b) now j) (.a xa)) :
    ∃ s' : Sh (Int × Int), s'.All ((GB p b) t (j + 1)) ∧ ∀ (B : List Value → AH → Prop) (Q : AExit → List Value → AH → Prop), B (bV t ys n (IntKind.i64.wrap (i + 1))) (HB xs d m p b s' t) → once 0 Tryz.prog SLk [] (gh (t, bobB, co, lo)) 3000 150 [3, 6, 8, 10, 60, 61, 62] [] [2, 3, 6, 8, 10] [] (oneLoop (codeOf Tryz.f4) 11) (bV at_ ys n i) (HB xs d m p b (.a xa) now) B Q := by
  obtain ⟨t0, t1, c0, c1, l0, l1⟩ := at3_in hA
  have hn : now ≤ t := hA.le
  rcases vB2_or (t := t) (x := 0) (y := IntKind.i64.wrap (b * p)) hm hp hb (i := j) (now := 0) (GB0 hp hb (by omega) j) t0 t1 c0 c1 with ⟨hG, h⟩ | ⟨w, h⟩
  · exact ⟨(.ab xa (_, _)), ⟨(GB_up (t := t) (now := now) (j := j) hn hg), hG⟩, fun B Q hB => (rB_a_b xs ys d at_ n i m p b now t co lo xa.1 xa.2 B Q).mpr (rnd3 hA (h _ _ (ak3 hA (h _ _ hB))))⟩
  · exact ⟨.a xa, (GB_up (t := t) (now := now) (j := j) hn hg), fun B Q hB => (rB_a_b xs ys d at_ n i m p b now t co lo xa.1 xa.2 B Q).mpr (rnd3 hA (h _ _ (ak3 hA (h _ _ (pick_f (eqv w) hB)))))⟩
theorem uB_b_a {m p b : Int} (hm : okM m) (hp : okPer p) (hb : okBu b) (xs : Array Value) (d : Int) {ys : List Value} {at_ n i now t co lo : Int} (xb : Int × Int) (hA : At3 ys n i now (t, annB, co, lo)) {j : Nat} (hj : j ≤ 100) (hg : Sh.All ((GB p b) now j) (.b xb)) :
    ∃ s' : Sh (Int × Int), s'.All ((GB p b) t (j + 1)) ∧ ∀ (B : List Value → AH → Prop) (Q : AExit → List Value → AH → Prop), B (bV t ys n (IntKind.i64.wrap (i + 1))) (HB xs d m p b s' t) → once 0 Tryz.prog SLk [] (gh (t, annB, co, lo)) 3000 150 [3, 6, 8, 10, 60, 61, 62] [] [2, 3, 6, 8, 10] [] (oneLoop (codeOf Tryz.f4) 11) (bV at_ ys n i) (HB xs d m p b (.b xb) now) B Q := by
  obtain ⟨t0, t1, c0, c1, l0, l1⟩ := at3_in hA
  have hn : now ≤ t := hA.le
  rcases vB2_or (t := t) (x := 0) (y := IntKind.i64.wrap (b * p)) hm hp hb (i := j) (now := 0) (GB0 hp hb (by omega) j) t0 t1 c0 c1 with ⟨hG, h⟩ | ⟨w, h⟩
  · exact ⟨(.ba xb (_, _)), ⟨(GB_up (t := t) (now := now) (j := j) hn hg), hG⟩, fun B Q hB => (rB_b_a xs ys d at_ n i m p b now t co lo xb.1 xb.2 B Q).mpr (rnd3 hA (h _ _ (ak3 hA (h _ _ hB))))⟩
  · exact ⟨.b xb, (GB_up (t := t) (now := now) (j := j) hn hg), fun B Q hB => (rB_b_a xs ys d at_ n i m p b now t co lo xb.1 xb.2 B Q).mpr (rnd3 hA (h _ _ (ak3 hA (h _ _ (pick_f (eqv w) hB)))))⟩
theorem uB_b_b {m p b : Int} (hm : okM m) (hp : okPer p) (hb : okBu b) (xs : Array Value) (d : Int) {ys : List Value} {at_ n i now t co lo : Int} (xb : Int × Int) (hA : At3 ys n i now (t, bobB, co, lo)) {j : Nat} (hj : j ≤ 100) (hg : Sh.All ((GB p b) now j) (.b xb)) :
    ∃ s' : Sh (Int × Int), s'.All ((GB p b) t (j + 1)) ∧ ∀ (B : List Value → AH → Prop) (Q : AExit → List Value → AH → Prop), B (bV t ys n (IntKind.i64.wrap (i + 1))) (HB xs d m p b s' t) → once 0 Tryz.prog SLk [] (gh (t, bobB, co, lo)) 3000 150 [3, 6, 8, 10, 60, 61, 62] [] [2, 3, 6, 8, 10] [] (oneLoop (codeOf Tryz.f4) 11) (bV at_ ys n i) (HB xs d m p b (.b xb) now) B Q := by
  obtain ⟨t0, t1, c0, c1, l0, l1⟩ := at3_in hA
  have hn : now ≤ t := hA.le
  rcases vB2_or (t := t) (x := xb.1) (y := xb.2) hm hp hb (i := j) (now := now) hg hn t1 c0 c1 with ⟨hG, h⟩ | ⟨w, h⟩
  · exact ⟨(.b (_, _)), hG, fun B Q hB => (rB_b_b xs ys d at_ n i m p b now t co lo xb.1 xb.2 B Q).mpr (rnd3 hA (h _ _ (ak3 hA (h _ _ hB))))⟩
  · exact ⟨.b xb, (GB_up (t := t) (now := now) (j := j) hn hg), fun B Q hB => (rB_b_b xs ys d at_ n i m p b now t co lo xb.1 xb.2 B Q).mpr (rnd3 hA (h _ _ (ak3 hA (h _ _ (pick_f (eqv w) hB)))))⟩
theorem uB_ab_a {m p b : Int} (hm : okM m) (hp : okPer p) (hb : okBu b) (xs : Array Value) (d : Int) {ys : List Value} {at_ n i now t co lo : Int} (xa : Int × Int) (xb : Int × Int) (hA : At3 ys n i now (t, annB, co, lo)) {j : Nat} (hj : j ≤ 100) (hg : Sh.All ((GB p b) now j) (.ab xa xb)) :
    ∃ s' : Sh (Int × Int), s'.All ((GB p b) t (j + 1)) ∧ ∀ (B : List Value → AH → Prop) (Q : AExit → List Value → AH → Prop), B (bV t ys n (IntKind.i64.wrap (i + 1))) (HB xs d m p b s' t) → once 0 Tryz.prog SLk [] (gh (t, annB, co, lo)) 3000 150 [3, 6, 8, 10, 60, 61, 62] [] [2, 3, 6, 8, 10] [] (oneLoop (codeOf Tryz.f4) 11) (bV at_ ys n i) (HB xs d m p b (.ab xa xb) now) B Q := by
  obtain ⟨t0, t1, c0, c1, l0, l1⟩ := at3_in hA
  have hn : now ≤ t := hA.le
  rcases vB2_or (t := t) (x := xa.1) (y := xa.2) hm hp hb (i := j) (now := now) hg.1 hn t1 c0 c1 with ⟨hG, h⟩ | ⟨w, h⟩
  · exact ⟨(.ab (_, _) xb), ⟨hG, (GB_up (t := t) (now := now) (j := j) hn hg.2)⟩, fun B Q hB => (rB_ab_a xs ys d at_ n i m p b now t co lo xa.1 xa.2 xb.1 xb.2 B Q).mpr (rnd3 hA (h _ _ (ak3 hA (h _ _ hB))))⟩
  · exact ⟨.ab xa xb, ⟨(GB_up (t := t) (now := now) (j := j) hn hg.1), (GB_up (t := t) (now := now) (j := j) hn hg.2)⟩, fun B Q hB => (rB_ab_a xs ys d at_ n i m p b now t co lo xa.1 xa.2 xb.1 xb.2 B Q).mpr (rnd3 hA (h _ _ (ak3 hA (h _ _ (pick_f (eqv w) hB)))))⟩
theorem uB_ab_b {m p b : Int} (hm : okM m) (hp : okPer p) (hb : okBu b) (xs : Array Value) (d : Int) {ys : List Value} {at_ n i now t co lo : Int} (xa : Int × Int) (xb : Int × Int) (hA : At3 ys n i now (t, bobB, co, lo)) {j : Nat} (hj : j ≤ 100) (hg : Sh.All ((GB p b) now j) (.ab xa xb)) :
    ∃ s' : Sh (Int × Int), s'.All ((GB p b) t (j + 1)) ∧ ∀ (B : List Value → AH → Prop) (Q : AExit → List Value → AH → Prop), B (bV t ys n (IntKind.i64.wrap (i + 1))) (HB xs d m p b s' t) → once 0 Tryz.prog SLk [] (gh (t, bobB, co, lo)) 3000 150 [3, 6, 8, 10, 60, 61, 62] [] [2, 3, 6, 8, 10] [] (oneLoop (codeOf Tryz.f4) 11) (bV at_ ys n i) (HB xs d m p b (.ab xa xb) now) B Q := by
  obtain ⟨t0, t1, c0, c1, l0, l1⟩ := at3_in hA
  have hn : now ≤ t := hA.le
  rcases vB2_or (t := t) (x := xb.1) (y := xb.2) hm hp hb (i := j) (now := now) hg.2 hn t1 c0 c1 with ⟨hG, h⟩ | ⟨w, h⟩
  · exact ⟨(.ab xa (_, _)), ⟨(GB_up (t := t) (now := now) (j := j) hn hg.1), hG⟩, fun B Q hB => (rB_ab_b xs ys d at_ n i m p b now t co lo xa.1 xa.2 xb.1 xb.2 B Q).mpr (rnd3 hA (h _ _ (ak3 hA (h _ _ hB))))⟩
  · exact ⟨.ab xa xb, ⟨(GB_up (t := t) (now := now) (j := j) hn hg.1), (GB_up (t := t) (now := now) (j := j) hn hg.2)⟩, fun B Q hB => (rB_ab_b xs ys d at_ n i m p b now t co lo xa.1 xa.2 xb.1 xb.2 B Q).mpr (rnd3 hA (h _ _ (ak3 hA (h _ _ (pick_f (eqv w) hB)))))⟩
theorem uB_ba_a {m p b : Int} (hm : okM m) (hp : okPer p) (hb : okBu b) (xs : Array Value) (d : Int) {ys : List Value} {at_ n i now t co lo : Int} (xb : Int × Int) (xa : Int × Int) (hA : At3 ys n i now (t, annB, co, lo)) {j : Nat} (hj : j ≤ 100) (hg : Sh.All ((GB p b) now j) (.ba xb xa)) :
    ∃ s' : Sh (Int × Int), s'.All ((GB p b) t (j + 1)) ∧ ∀ (B : List Value → AH → Prop) (Q : AExit → List Value → AH → Prop), B (bV t ys n (IntKind.i64.wrap (i + 1))) (HB xs d m p b s' t) → once 0 Tryz.prog SLk [] (gh (t, annB, co, lo)) 3000 150 [3, 6, 8, 10, 60, 61, 62] [] [2, 3, 6, 8, 10] [] (oneLoop (codeOf Tryz.f4) 11) (bV at_ ys n i) (HB xs d m p b (.ba xb xa) now) B Q := by
  obtain ⟨t0, t1, c0, c1, l0, l1⟩ := at3_in hA
  have hn : now ≤ t := hA.le
  rcases vB2_or (t := t) (x := xa.1) (y := xa.2) hm hp hb (i := j) (now := now) hg.2 hn t1 c0 c1 with ⟨hG, h⟩ | ⟨w, h⟩
  · exact ⟨(.ba xb (_, _)), ⟨(GB_up (t := t) (now := now) (j := j) hn hg.1), hG⟩, fun B Q hB => (rB_ba_a xs ys d at_ n i m p b now t co lo xb.1 xb.2 xa.1 xa.2 B Q).mpr (rnd3 hA (h _ _ (ak3 hA (h _ _ hB))))⟩
  · exact ⟨.ba xb xa, ⟨(GB_up (t := t) (now := now) (j := j) hn hg.1), (GB_up (t := t) (now := now) (j := j) hn hg.2)⟩, fun B Q hB => (rB_ba_a xs ys d at_ n i m p b now t co lo xb.1 xb.2 xa.1 xa.2 B Q).mpr (rnd3 hA (h _ _ (ak3 hA (h _ _ (pick_f (eqv w) hB)))))⟩
theorem uB_ba_b {m p b : Int} (hm : okM m) (hp : okPer p) (hb : okBu b) (xs : Array Value) (d : Int) {ys : List Value} {at_ n i now t co lo : Int} (xb : Int × Int) (xa : Int × Int) (hA : At3 ys n i now (t, bobB, co, lo)) {j : Nat} (hj : j ≤ 100) (hg : Sh.All ((GB p b) now j) (.ba xb xa)) :
    ∃ s' : Sh (Int × Int), s'.All ((GB p b) t (j + 1)) ∧ ∀ (B : List Value → AH → Prop) (Q : AExit → List Value → AH → Prop), B (bV t ys n (IntKind.i64.wrap (i + 1))) (HB xs d m p b s' t) → once 0 Tryz.prog SLk [] (gh (t, bobB, co, lo)) 3000 150 [3, 6, 8, 10, 60, 61, 62] [] [2, 3, 6, 8, 10] [] (oneLoop (codeOf Tryz.f4) 11) (bV at_ ys n i) (HB xs d m p b (.ba xb xa) now) B Q := by
  obtain ⟨t0, t1, c0, c1, l0, l1⟩ := at3_in hA
  have hn : now ≤ t := hA.le
  rcases vB2_or (t := t) (x := xb.1) (y := xb.2) hm hp hb (i := j) (now := now) hg.1 hn t1 c0 c1 with ⟨hG, h⟩ | ⟨w, h⟩
  · exact ⟨(.ba (_, _) xa), ⟨hG, (GB_up (t := t) (now := now) (j := j) hn hg.2)⟩, fun B Q hB => (rB_ba_b xs ys d at_ n i m p b now t co lo xb.1 xb.2 xa.1 xa.2 B Q).mpr (rnd3 hA (h _ _ (ak3 hA (h _ _ hB))))⟩
  · exact ⟨.ba xb xa, ⟨(GB_up (t := t) (now := now) (j := j) hn hg.1), (GB_up (t := t) (now := now) (j := j) hn hg.2)⟩, fun B Q hB => (rB_ba_b xs ys d at_ n i m p b now t co lo xb.1 xb.2 xa.1 xa.2 B Q).mpr (rnd3 hA (h _ _ (ak3 hA (h _ _ (pick_f (eqv w) hB)))))⟩
theorem rdB {m p b : Int} (hm : okM m) (hp : okPer p) (hb : okBu b) (xs : Array Value) (d : Int) : RoundE (HB xs d m p b) (GB p b) := by
  intro ys at_ n i now a s j hA hw hj hg
  obtain ⟨t, w, co, lo⟩ := a
  rcases hw with rfl | rfl
  · match s, hg with
    | .e, hg => exact uB_e_a hm hp hb xs d  hA hj hg
    | .a xa, hg => exact uB_a_a hm hp hb xs d xa hA hj hg
    | .b xb, hg => exact uB_b_a hm hp hb xs d xb hA hj hg
    | .ab xa xb, hg => exact uB_ab_a hm hp hb xs d xa xb hA hj hg
    | .ba xb xa, hg => exact uB_ba_a hm hp hb xs d xb xa hA hj hg
  · match s, hg with
    | .e, hg => exact uB_e_b hm hp hb xs d  hA hj hg
    | .a xa, hg => exact uB_a_b hm hp hb xs d xa hA hj hg
    | .b xb, hg => exact uB_b_b hm hp hb xs d xb hA hj hg
    | .ab xa xb, hg => exact uB_ab_b hm hp hb xs d xa xb hA hj hg
    | .ba xb xa, hg => exact uB_ba_b hm hp hb xs d xb xa hA hj hg
theorem enB {m p b : Int} (xs : Array Value) (d : Int) : EndE (HB xs d m p b) := by
  intro ys at_ n i now s hni B Q hQ
  match s, hQ with
  | .e, hQ => exact (rB_e_a xs ys d at_ n i m p b now 0 0 0  B Q).mpr (pick_f (decide_eq_false (by omega)) hQ)
  | .a xa, hQ => exact (rB_a_a xs ys d at_ n i m p b now 0 0 0 xa.1 xa.2 B Q).mpr (pick_f (decide_eq_false (by omega)) hQ)
  | .b xb, hQ => exact (rB_b_a xs ys d at_ n i m p b now 0 0 0 xb.1 xb.2 B Q).mpr (pick_f (decide_eq_false (by omega)) hQ)
  | .ab xa xb, hQ => exact (rB_ab_a xs ys d at_ n i m p b now 0 0 0 xa.1 xa.2 xb.1 xb.2 B Q).mpr (pick_f (decide_eq_false (by omega)) hQ)
  | .ba xb xa, hQ => exact (rB_ba_a xs ys d at_ n i m p b now 0 0 0 xb.1 xb.2 xa.1 xa.2 B Q).mpr (pick_f (decide_eq_false (by omega)) hQ)
end Go.Proofs.YtbigicdojndnjaaGreatDoor
