/-
  Limits: the rounds of one kind (W).
-/
import Derived.Test.YtbigicdojndnjaaGreatDoorLkM
import Derived.Test.YtbigicdojndnjaaGreatDoorLkW
namespace Go.Proofs.YtbigicdojndnjaaGreatDoor
open Go.Ev Go.RowKit LimLaw

theorem GW_up {t now : Int} {j : Nat} {x : Int × Int} (h : GW now j x) : GW t (j + 1) x := ⟨h.1, by have := h.2; omega⟩
theorem GW0 (now : Int) (j : Nat) : GW now j (0, 0) := ⟨Int.le_refl _, by show (0 : Int) ≤ _; omega⟩
def HW (xs : Array Value) (d m p b : Int) : Sh (Int × Int) → Int → AH
  | .e, t => hW_e_e xs d m p b t  t 
  | .a xa, t => hW_a_a xs d m p b t xa.1 xa.2 t xa.1 xa.2
  | .b xb, t => hW_b_b xs d m p b t xb.1 xb.2 t xb.1 xb.2
  | .ab xa xb, t => hW_ab_ab xs d m p b t xa.1 xa.2 xb.1 xb.2 t xa.1 xa.2 xb.1 xb.2
  | .ba xb xa, t => hW_ba_ba xs d m p b t xb.1 xb.2 xa.1 xa.2 t xb.1 xb.2 xa.1 xa.2
theorem uW_e_a {m p b : Int} (hp : p ≠ 0) (hm : okM m) (xs : Array Value) (d : Int) {ys : List Value} {at_ n i now t co lo : Int} (hA : At3 ys n i now (t, annB, co, lo)) {j : Nat} (hj : j ≤ 100) (hg : Sh.All (GW now j) (.e)) :
    ∃ s' : Sh (Int × Int), s'.All (GW t (j + 1)) ∧ ∀ (B : List Value → AH → Prop) (Q : AExit → List Value → AH → Prop), B (bV t ys n (IntKind.i64.wrap (i + 1))) (HW xs d m p b s' t) → once 0 Tryz.prog SLk [] (gh (t, annB, co, lo)) 3000 150 [3, 6, 8, 10, 60, 61, 62] [] [2, 3, 6, 8, 10] [] (oneLoop (codeOf Tryz.f4) 11) (bV at_ ys n i) (HW xs d m p b (.e) now) B Q := by
  obtain ⟨t0, t1, c0, c1, l0, l1⟩ := at3_in hA
  have hn : now ≤ t := hA.le
  rcases vW2_or (b := b) (x := 0) (y := 0) (t := t) hp hm hj (now := now) (GW0 now j) c0 c1 with ⟨hG, h⟩ | ⟨w, h⟩
  · exact ⟨(.a (_, _)), hG, fun B Q hB => (rW_e_a xs ys d at_ n i m p b now t co lo  B Q).mpr (rnd3 hA (h _ _ (ak3 hA (h _ _ hB))))⟩
  · exact ⟨.e, trivial, fun B Q hB => (rW_e_a xs ys d at_ n i m p b now t co lo  B Q).mpr (rnd3 hA (h _ _ (ak3 hA (h _ _ (pick_f (eqv w) hB)))))⟩
theorem uW_e_b {m p b : Int} (hp : p ≠ 0) (hm : okM m) (xs : Array Value) (d : Int) {ys : List Value} {at_ n i now t co lo : Int} (hA : At3 ys n i now (t, bobB, co, lo)) {j : Nat} (hj : j ≤ 100) (hg : Sh.All (GW now j) (.e)) :
    ∃ s' : Sh (Int × Int), s'.All (GW t (j + 1)) ∧ ∀ (B : List Value → AH → Prop) (Q : AExit → List Value → AH → Prop), B (bV t ys n (IntKind.i64.wrap (i + 1))) (HW xs d m p b s' t) → once 0 Tryz.prog SLk [] (gh (t, bobB, co, lo)) 3000 150 [3, 6, 8, 10, 60, 61, 62] [] [2, 3, 6, 8, 10] [] (oneLoop (codeOf Tryz.f4) 11) (bV at_ ys n i) (HW xs d m p b (.e) now) B Q := by
  obtain ⟨t0, t1, c0, c1, l0, l1⟩ := at3_in hA
  have hn : now ≤ t := hA.le
  rcases vW2_or (b := b) (x := 0) (y := 0) (t := t) hp hm hj (now := now) (GW0 now j) c0 c1 with ⟨hG, h⟩ | ⟨w, h⟩
  · exact ⟨(.b (_, _)), hG, fun B Q hB => (rW_e_b xs ys d at_ n i m p b now t co lo  B Q).mpr (rnd3 hA (h _ _ (ak3 hA (h _ _ hB))))⟩
  · exact ⟨.e, trivial, fun B Q hB => (rW_e_b xs ys d at_ n i m p b now t co lo  B Q).mpr (rnd3 hA (h _ _ (ak3 hA (h _ _ (pick_f (eqv w) hB)))))⟩
theorem uW_a_a {m p b : Int} (hp : p ≠ 0) (hm : okM m) (xs : Array Value) (d : Int) {ys : List Value} {at_ n i now t co lo : Int} (xa : Int × Int) (hA : At3 ys n i now (t, annB, co, lo)) {j : Nat} (hj : j ≤ 100) (hg : Sh.All (GW now j) (.a xa)) :
    ∃ s' : Sh (Int × Int), s'.All (GW t (j + 1)) ∧ ∀ (B : List Value → AH → Prop) (Q : AExit → List Value → AH → Prop), B (bV t ys n (IntKind.i64.wrap (i + 1))) (HW xs d m p b s' t) → once 0 Tryz.prog SLk [] (gh (t, annB, co, lo)) 3000 150 [3, 6, 8, 10, 60, 61, 62] [] [2, 3, 6, 8, 10] [] (oneLoop (codeOf Tryz.f4) 11) (bV at_ ys n i) (HW xs d m p b (.a xa) now) B Q := by
  obtain ⟨t0, t1, c0, c1, l0, l1⟩ := at3_in hA
  have hn : now ≤ t := hA.le
  rcases vW2_or (b := b) (x := xa.1) (y := xa.2) (t := t) hp hm hj (now := now) hg c0 c1 with ⟨hG, h⟩ | ⟨w, h⟩
  · exact ⟨(.a (_, _)), hG, fun B Q hB => (rW_a_a xs ys d at_ n i m p b now t co lo xa.1 xa.2 B Q).mpr (rnd3 hA (h _ _ (ak3 hA (h _ _ hB))))⟩
  · exact ⟨.a xa, (GW_up (t := t) (now := now) hg), fun B Q hB => (rW_a_a xs ys d at_ n i m p b now t co lo xa.1 xa.2 B Q).mpr (rnd3 hA (h _ _ (ak3 hA (h _ _ (pick_f (eqv w) hB)))))⟩
theorem uW_a_b {m p b : Int} (hp : p ≠ 0) (hm : okM m) (xs : Array Value) (d : Int) {ys : List Value} {at_ n i now t co lo : Int} (xa : Int × Int) (hA : At3 ys n i now (t, bobB, co, lo)) {j : Nat} (hj : j ≤ 100) (hg : Sh.All (GW now j) (.a xa)) :
    ∃ s' : Sh (Int × Int), s'.All (GW t (j + 1)) ∧ ∀ (B : List Value → AH → Prop) (Q : AExit → List Value → AH → Prop), B (bV t ys n (IntKind.i64.wrap (i + 1))) (HW xs d m p b s' t) → once 0 Tryz.prog SLk [] (gh (t, bobB, co, lo)) 3000 150 [3, 6, 8, 10, 60, 61, 62] [] [2, 3, 6, 8, 10] [] (oneLoop (codeOf Tryz.f4) 11) (bV at_ ys n i) (HW xs d m p b (.a xa) now) B Q := by
  obtain ⟨t0, t1, c0, c1, l0, l1⟩ := at3_in hA
  have hn : now ≤ t := hA.le
  rcases vW2_or (b := b) (x := 0) (y := 0) (t := t) hp hm hj (now := now) (GW0 now j) c0 c1 with ⟨hG, h⟩ | ⟨w, h⟩
  · exact ⟨(.ab xa (_, _)), ⟨(GW_up (t := t) (now := now) hg), hG⟩, fun B Q hB => (rW_a_b xs ys d at_ n i m p b now t co lo xa.1 xa.2 B Q).mpr (rnd3 hA (h _ _ (ak3 hA (h _ _ hB))))⟩
  · exact ⟨.a xa, (GW_up (t := t) (now := now) hg), fun B Q hB => (rW_a_b xs ys d at_ n i m p b now t co lo xa.1 xa.2 B Q).mpr (rnd3 hA (h _ _ (ak3 hA (h _ _ (pick_f (eqv w) hB)))))⟩
theorem uW_b_a {m p b : Int} (hp : p ≠ 0) (hm : okM m) (xs : Array Value) (d : Int) {ys : List Value} {at_ n i now t co lo : Int} (xb : Int × Int) (hA : At3 ys n i now (t, annB, co, lo)) {j : Nat} (hj : j ≤ 100) (hg : Sh.All (GW now j) (.b xb)) :
    ∃ s' : Sh (Int × Int), s'.All (GW t (j + 1)) ∧ ∀ (B : List Value → AH → Prop) (Q : AExit → List Value → AH → Prop), B (bV t ys n (IntKind.i64.wrap (i + 1))) (HW xs d m p b s' t) → once 0 Tryz.prog SLk [] (gh (t, annB, co, lo)) 3000 150 [3, 6, 8, 10, 60, 61, 62] [] [2, 3, 6, 8, 10] [] (oneLoop (codeOf Tryz.f4) 11) (bV at_ ys n i) (HW xs d m p b (.b xb) now) B Q := by
  obtain ⟨t0, t1, c0, c1, l0, l1⟩ := at3_in hA
  have hn : now ≤ t := hA.le
  rcases vW2_or (b := b) (x := 0) (y := 0) (t := t) hp hm hj (now := now) (GW0 now j) c0 c1 with ⟨hG, h⟩ | ⟨w, h⟩
  · exact ⟨(.ba xb (_, _)), ⟨(GW_up (t := t) (now := now) hg), hG⟩, fun B Q hB => (rW_b_a xs ys d at_ n i m p b now t co lo xb.1 xb.2 B Q).mpr (rnd3 hA (h _ _ (ak3 hA (h _ _ hB))))⟩
  · exact ⟨.b xb, (GW_up (t := t) (now := now) hg), fun B Q hB => (rW_b_a xs ys d at_ n i m p b now t co lo xb.1 xb.2 B Q).mpr (rnd3 hA (h _ _ (ak3 hA (h _ _ (pick_f (eqv w) hB)))))⟩
theorem uW_b_b {m p b : Int} (hp : p ≠ 0) (hm : okM m) (xs : Array Value) (d : Int) {ys : List Value} {at_ n i now t co lo : Int} (xb : Int × Int) (hA : At3 ys n i now (t, bobB, co, lo)) {j : Nat} (hj : j ≤ 100) (hg : Sh.All (GW now j) (.b xb)) :
    ∃ s' : Sh (Int × Int), s'.All (GW t (j + 1)) ∧ ∀ (B : List Value → AH → Prop) (Q : AExit → List Value → AH → Prop), B (bV t ys n (IntKind.i64.wrap (i + 1))) (HW xs d m p b s' t) → once 0 Tryz.prog SLk [] (gh (t, bobB, co, lo)) 3000 150 [3, 6, 8, 10, 60, 61, 62] [] [2, 3, 6, 8, 10] [] (oneLoop (codeOf Tryz.f4) 11) (bV at_ ys n i) (HW xs d m p b (.b xb) now) B Q := by
  obtain ⟨t0, t1, c0, c1, l0, l1⟩ := at3_in hA
  have hn : now ≤ t := hA.le
  rcases vW2_or (b := b) (x := xb.1) (y := xb.2) (t := t) hp hm hj (now := now) hg c0 c1 with ⟨hG, h⟩ | ⟨w, h⟩
  · exact ⟨(.b (_, _)), hG, fun B Q hB => (rW_b_b xs ys d at_ n i m p b now t co lo xb.1 xb.2 B Q).mpr (rnd3 hA (h _ _ (ak3 hA (h _ _ hB))))⟩
  · exact ⟨.b xb, (GW_up (t := t) (now := now) hg), fun B Q hB => (rW_b_b xs ys d at_ n i m p b now t co lo xb.1 xb.2 B Q).mpr (rnd3 hA (h _ _ (ak3 hA (h _ _ (pick_f (eqv w) hB)))))⟩
theorem uW_ab_a {m p b : Int} (hp : p ≠ 0) (hm : okM m) (xs : Array Value) (d : Int) {ys : List Value} {at_ n i now t co lo : Int} (xa : Int × Int) (xb : Int × Int) (hA : At3 ys n i now (t, annB, co, lo)) {j : Nat} (hj : j ≤ 100) (hg : Sh.All (GW now j) (.ab xa xb)) :
    ∃ s' : Sh (Int × Int), s'.All (GW t (j + 1)) ∧ ∀ (B : List Value → AH → Prop) (Q : AExit → List Value → AH → Prop), B (bV t ys n (IntKind.i64.wrap (i + 1))) (HW xs d m p b s' t) → once 0 Tryz.prog SLk [] (gh (t, annB, co, lo)) 3000 150 [3, 6, 8, 10, 60, 61, 62] [] [2, 3, 6, 8, 10] [] (oneLoop (codeOf Tryz.f4) 11) (bV at_ ys n i) (HW xs d m p b (.ab xa xb) now) B Q := by
  obtain ⟨t0, t1, c0, c1, l0, l1⟩ := at3_in hA
  have hn : now ≤ t := hA.le
  rcases vW2_or (b := b) (x := xa.1) (y := xa.2) (t := t) hp hm hj (now := now) hg.1 c0 c1 with ⟨hG, h⟩ | ⟨w, h⟩
  · exact ⟨(.ab (_, _) xb), ⟨hG, (GW_up (t := t) (now := now) hg.2)⟩, fun B Q hB => (rW_ab_a xs ys d at_ n i m p b now t co lo xa.1 xa.2 xb.1 xb.2 B Q).mpr (rnd3 hA (h _ _ (ak3 hA (h _ _ hB))))⟩
  · exact ⟨.ab xa xb, ⟨(GW_up (t := t) (now := now) hg.1), (GW_up (t := t) (now := now) hg.2)⟩, fun B Q hB => (rW_ab_a xs ys d at_ n i m p b now t co lo xa.1 xa.2 xb.1 xb.2 B Q).mpr (rnd3 hA (h _ _ (ak3 hA (h _ _ (pick_f (eqv w) hB)))))⟩
theorem uW_ab_b {m p b : Int} (hp : p ≠ 0) (hm : okM m) (xs : Array Value) (d : Int) {ys : List Value} {at_ n i now t co lo : Int} (xa : Int × Int) (xb : Int × Int) (hA : At3 ys n i now (t, bobB, co, lo)) {j : Nat} (hj : j ≤ 100) (hg : Sh.All (GW now j) (.ab xa xb)) :
    ∃ s' : Sh (Int × Int), s'.All (GW t (j + 1)) ∧ ∀ (B : List Value → AH → Prop) (Q : AExit → List Value → AH → Prop), B (bV t ys n (IntKind.i64.wrap (i + 1))) (HW xs d m p b s' t) → once 0 Tryz.prog SLk [] (gh (t, bobB, co, lo)) 3000 150 [3, 6, 8, 10, 60, 61, 62] [] [2, 3, 6, 8, 10] [] (oneLoop (codeOf Tryz.f4) 11) (bV at_ ys n i) (HW xs d m p b (.ab xa xb) now) B Q := by
  obtain ⟨t0, t1, c0, c1, l0, l1⟩ := at3_in hA
  have hn : now ≤ t := hA.le
  rcases vW2_or (b := b) (x := xb.1) (y := xb.2) (t := t) hp hm hj (now := now) hg.2 c0 c1 with ⟨hG, h⟩ | ⟨w, h⟩
  · exact ⟨(.ab xa (_, _)), ⟨(GW_up (t := t) (now := now) hg.1), hG⟩, fun B Q hB => (rW_ab_b xs ys d at_ n i m p b now t co lo xa.1 xa.2 xb.1 xb.2 B Q).mpr (rnd3 hA (h _ _ (ak3 hA (h _ _ hB))))⟩
  · exact ⟨.ab xa xb, ⟨(GW_up (t := t) (now := now) hg.1), (GW_up (t := t) (now := now) hg.2)⟩, fun B Q hB => (rW_ab_b xs ys d at_ n i m p b now t co lo xa.1 xa.2 xb.1 xb.2 B Q).mpr (rnd3 hA (h _ _ (ak3 hA (h _ _ (pick_f (eqv w) hB)))))⟩
theorem uW_ba_a {m p b : Int} (hp : p ≠ 0) (hm : okM m) (xs : Array Value) (d : Int) {ys : List Value} {at_ n i now t co lo : Int} (xb : Int × Int) (xa : Int × Int) (hA : At3 ys n i now (t, annB, co, lo)) {j : Nat} (hj : j ≤ 100) (hg : Sh.All (GW now j) (.ba xb xa)) :
    ∃ s' : Sh (Int × Int), s'.All (GW t (j + 1)) ∧ ∀ (B : List Value → AH → Prop) (Q : AExit → List Value → AH → Prop), B (bV t ys n (IntKind.i64.wrap (i + 1))) (HW xs d m p b s' t) → once 0 Tryz.prog SLk [] (gh (t, annB, co, lo)) 3000 150 [3, 6, 8, 10, 60, 61, 62] [] [2, 3, 6, 8, 10] [] (oneLoop (codeOf Tryz.f4) 11) (bV at_ ys n i) (HW xs d m p b (.ba xb xa) now) B Q := by
  obtain ⟨t0, t1, c0, c1, l0, l1⟩ := at3_in hA
  have hn : now ≤ t := hA.le
  rcases vW2_or (b := b) (x := xa.1) (y := xa.2) (t := t) hp hm hj (now := now) hg.2 c0 c1 with ⟨hG, h⟩ | ⟨w, h⟩
  · exact ⟨(.ba xb (_, _)), ⟨(GW_up (t := t) (now := now) hg.1), hG⟩, fun B Q hB => (rW_ba_a xs ys d at_ n i m p b now t co lo xb.1 xb.2 xa.1 xa.2 B Q).mpr (rnd3 hA (h _ _ (ak3 hA (h _ _ hB))))⟩
  · exact ⟨.ba xb xa, ⟨(GW_up (t := t) (now := now) hg.1), (GW_up (t := t) (now := now) hg.2)⟩, fun B Q hB => (rW_ba_a xs ys d at_ n i m p b now t co lo xb.1 xb.2 xa.1 xa.2 B Q).mpr (rnd3 hA (h _ _ (ak3 hA (h _ _ (pick_f (eqv w) hB)))))⟩
theorem uW_ba_b {m p b : Int} (hp : p ≠ 0) (hm : okM m) (xs : Array Value) (d : Int) {ys : List Value} {at_ n i now t co lo : Int} (xb : Int × Int) (xa : Int × Int) (hA : At3 ys n i now (t, bobB, co, lo)) {j : Nat} (hj : j ≤ 100) (hg : Sh.All (GW now j) (.ba xb xa)) :
    ∃ s' : Sh (Int × Int), s'.All (GW t (j + 1)) ∧ ∀ (B : List Value → AH → Prop) (Q : AExit → List Value → AH → Prop), B (bV t ys n (IntKind.i64.wrap (i + 1))) (HW xs d m p b s' t) → once 0 Tryz.prog SLk [] (gh (t, bobB, co, lo)) 3000 150 [3, 6, 8, 10, 60, 61, 62] [] [2, 3, 6, 8, 10] [] (oneLoop (codeOf Tryz.f4) 11) (bV at_ ys n i) (HW xs d m p b (.ba xb xa) now) B Q := by
  obtain ⟨t0, t1, c0, c1, l0, l1⟩ := at3_in hA
  have hn : now ≤ t := hA.le
  rcases vW2_or (b := b) (x := xb.1) (y := xb.2) (t := t) hp hm hj (now := now) hg.1 c0 c1 with ⟨hG, h⟩ | ⟨w, h⟩
  · exact ⟨(.ba (_, _) xa), ⟨hG, (GW_up (t := t) (now := now) hg.2)⟩, fun B Q hB => (rW_ba_b xs ys d at_ n i m p b now t co lo xb.1 xb.2 xa.1 xa.2 B Q).mpr (rnd3 hA (h _ _ (ak3 hA (h _ _ hB))))⟩
  · exact ⟨.ba xb xa, ⟨(GW_up (t := t) (now := now) hg.1), (GW_up (t := t) (now := now) hg.2)⟩, fun B Q hB => (rW_ba_b xs ys d at_ n i m p b now t co lo xb.1 xb.2 xa.1 xa.2 B Q).mpr (rnd3 hA (h _ _ (ak3 hA (h _ _ (pick_f (eqv w) hB)))))⟩
theorem rdW {m p b : Int} (hp : p ≠ 0) (hm : okM m) (xs : Array Value) (d : Int) : RoundE (HW xs d m p b) GW := by
  intro ys at_ n i now a s j hA hw hj hg
  obtain ⟨t, w, co, lo⟩ := a
  rcases hw with rfl | rfl
  · match s, hg with
    | .e, hg => exact uW_e_a hp hm xs d  hA hj hg
    | .a xa, hg => exact uW_a_a hp hm xs d xa hA hj hg
    | .b xb, hg => exact uW_b_a hp hm xs d xb hA hj hg
    | .ab xa xb, hg => exact uW_ab_a hp hm xs d xa xb hA hj hg
    | .ba xb xa, hg => exact uW_ba_a hp hm xs d xb xa hA hj hg
  · match s, hg with
    | .e, hg => exact uW_e_b hp hm xs d  hA hj hg
    | .a xa, hg => exact uW_a_b hp hm xs d xa hA hj hg
    | .b xb, hg => exact uW_b_b hp hm xs d xb hA hj hg
    | .ab xa xb, hg => exact uW_ab_b hp hm xs d xa xb hA hj hg
    | .ba xb xa, hg => exact uW_ba_b hp hm xs d xb xa hA hj hg
theorem enW {m p b : Int} (xs : Array Value) (d : Int) : EndE (HW xs d m p b) := by
  intro ys at_ n i now s hni B Q hQ
  match s, hQ with
  | .e, hQ => exact (rW_e_a xs ys d at_ n i m p b now 0 0 0  B Q).mpr (pick_f (decide_eq_false (by omega)) hQ)
  | .a xa, hQ => exact (rW_a_a xs ys d at_ n i m p b now 0 0 0 xa.1 xa.2 B Q).mpr (pick_f (decide_eq_false (by omega)) hQ)
  | .b xb, hQ => exact (rW_b_a xs ys d at_ n i m p b now 0 0 0 xb.1 xb.2 B Q).mpr (pick_f (decide_eq_false (by omega)) hQ)
  | .ab xa xb, hQ => exact (rW_ab_a xs ys d at_ n i m p b now 0 0 0 xa.1 xa.2 xb.1 xb.2 B Q).mpr (pick_f (decide_eq_false (by omega)) hQ)
  | .ba xb xa, hQ => exact (rW_ba_a xs ys d at_ n i m p b now 0 0 0 xb.1 xb.2 xa.1 xa.2 B Q).mpr (pick_f (decide_eq_false (by omega)) hQ)
end Go.Proofs.YtbigicdojndnjaaGreatDoor
