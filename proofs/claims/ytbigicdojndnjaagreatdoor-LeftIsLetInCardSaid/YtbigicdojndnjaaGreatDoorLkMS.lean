/-
  Limits: the rounds of one kind (S).
-/
import Derived.Test.YtbigicdojndnjaaGreatDoorLkM
import Derived.Test.YtbigicdojndnjaaGreatDoorLkS
namespace Go.Proofs.YtbigicdojndnjaaGreatDoor
open Go.Ev Go.RowKit LimLaw

def HS (xs : Array Value) (d m p b : Int) : Sh (List P2) → Int → AH
  | .e, t => hS_e_e xs d m p b t  t 
  | .a xa, t => hS_ar_ar xs d m p b t xa.length (xa.flatMap pcC) t xa.length (xa.flatMap pcC)
  | .b xb, t => hS_br_br xs d m p b t xb.length (xb.flatMap pcC) t xb.length (xb.flatMap pcC)
  | .ab xa xb, t => hS_arbr_arbr xs d m p b t xa.length (xa.flatMap pcC) xb.length (xb.flatMap pcC) t xa.length (xa.flatMap pcC) xb.length (xb.flatMap pcC)
  | .ba xb xa, t => hS_brar_brar xs d m p b t xb.length (xb.flatMap pcC) xa.length (xa.flatMap pcC) t xb.length (xb.flatMap pcC) xa.length (xa.flatMap pcC)
theorem uS_e_a {m p b : Int} (xs : Array Value) (d : Int) {ys : List Value} {at_ n i now t co lo : Int} (hA : At3 ys n i now (t, annB, co, lo)) {j : Nat} (hj : j ≤ 100) (hg : Sh.All (GR now j) (.e)) :
    ∃ s' : Sh (List P2), s'.All (GR t (j + 1)) ∧ ∀ (B : List Value → AH → Prop) (Q : AExit → List Value → AH → Prop), B (bV t ys n (IntKind.i64.wrap (i + 1))) (HS xs d m p b s' t) → once 0 Tryz.prog SLk [] (gh (t, annB, co, lo)) 3000 150 [3, 6, 8, 10, 60, 61, 62] [] [2, 3, 6, 8, 10] [] (oneLoop (codeOf Tryz.f4) 11) (bV at_ ys n i) (HS xs d m p b (.e) now) B Q := by
  obtain ⟨t0, t1, c0, c1, l0, l1⟩ := at3_in hA
  have hn : now ≤ t := hA.le
  rcases v0_or m co with h | ⟨w, h⟩
  · exact ⟨(.a [(IntKind.i64.wrap (t + p), co)]), (GR_one (t := t) j c0 c1), fun B Q hB => (rS_e_a xs ys d at_ n i m p b now t co lo  B Q).mpr (rnd3 hA (h _ _ (ak3 hA (h _ _ (nP_mk (nnP1 _) (nP_mk (nnP1 _) hB))))))⟩
  · exact ⟨.e, trivial, fun B Q hB => (rS_e_a xs ys d at_ n i m p b now t co lo  B Q).mpr (rnd3 hA (h _ _ (ak3 hA (h _ _ (pick_f (eqv w) hB)))))⟩
theorem uS_e_b {m p b : Int} (xs : Array Value) (d : Int) {ys : List Value} {at_ n i now t co lo : Int} (hA : At3 ys n i now (t, bobB, co, lo)) {j : Nat} (hj : j ≤ 100) (hg : Sh.All (GR now j) (.e)) :
    ∃ s' : Sh (List P2), s'.All (GR t (j + 1)) ∧ ∀ (B : List Value → AH → Prop) (Q : AExit → List Value → AH → Prop), B (bV t ys n (IntKind.i64.wrap (i + 1))) (HS xs d m p b s' t) → once 0 Tryz.prog SLk [] (gh (t, bobB, co, lo)) 3000 150 [3, 6, 8, 10, 60, 61, 62] [] [2, 3, 6, 8, 10] [] (oneLoop (codeOf Tryz.f4) 11) (bV at_ ys n i) (HS xs d m p b (.e) now) B Q := by
  obtain ⟨t0, t1, c0, c1, l0, l1⟩ := at3_in hA
  have hn : now ≤ t := hA.le
  rcases v0_or m co with h | ⟨w, h⟩
  · exact ⟨(.b [(IntKind.i64.wrap (t + p), co)]), (GR_one (t := t) j c0 c1), fun B Q hB => (rS_e_b xs ys d at_ n i m p b now t co lo  B Q).mpr (rnd3 hA (h _ _ (ak3 hA (h _ _ (nP_mk (nnP1 _) (nP_mk (nnP1 _) hB))))))⟩
  · exact ⟨.e, trivial, fun B Q hB => (rS_e_b xs ys d at_ n i m p b now t co lo  B Q).mpr (rnd3 hA (h _ _ (ak3 hA (h _ _ (pick_f (eqv w) hB)))))⟩
theorem uS_ar_a {m p b : Int} (xs : Array Value) (d : Int) {ys : List Value} {at_ n i now t co lo : Int} (xa : List P2) (hA : At3 ys n i now (t, annB, co, lo)) {j : Nat} (hj : j ≤ 100) (hg : Sh.All (GR now j) (.a xa)) :
    ∃ s' : Sh (List P2), s'.All (GR t (j + 1)) ∧ ∀ (B : List Value → AH → Prop) (Q : AExit → List Value → AH → Prop), B (bV t ys n (IntKind.i64.wrap (i + 1))) (HS xs d m p b s' t) → once 0 Tryz.prog SLk [] (gh (t, annB, co, lo)) 3000 150 [3, 6, 8, 10, 60, 61, 62] [] [2, 3, 6, 8, 10] [] (oneLoop (codeOf Tryz.f4) 11) (bV at_ ys n i) (HS xs d m p b (.a xa) now) B Q := by
  obtain ⟨t0, t1, c0, c1, l0, l1⟩ := at3_in hA
  have hn : now ≤ t := hA.le
  rcases vR_or (now := now) (m := m) (p := p) (l := lo) (t := t) (c := co) hj hg c0 c1 with ⟨L2, hG, h⟩ | ⟨w, h⟩
  · exact ⟨(.a L2), hG, fun B Q hB => (rS_ar_a xs ys d at_ n i m p b now t co lo xa.length (xa.flatMap pcC) B Q).mpr (rnd3 hA (h _ _ (ak3 hA (h _ _ (nP_mk (nnL2 _) (nP_mk (nnL2 _) hB))))))⟩
  · exact ⟨.a xa, (GR_up (t := t) (now := now) hg), fun B Q hB => (rS_ar_a xs ys d at_ n i m p b now t co lo xa.length (xa.flatMap pcC) B Q).mpr (rnd3 hA (h _ _ (ak3 hA (h _ _ (pick_f (eqv w) (nP_mk (nnL2 _) (nP_mk (nnL2 _) hB)))))))⟩
theorem uS_ar_b {m p b : Int} (xs : Array Value) (d : Int) {ys : List Value} {at_ n i now t co lo : Int} (xa : List P2) (hA : At3 ys n i now (t, bobB, co, lo)) {j : Nat} (hj : j ≤ 100) (hg : Sh.All (GR now j) (.a xa)) :
    ∃ s' : Sh (List P2), s'.All (GR t (j + 1)) ∧ ∀ (B : List Value → AH → Prop) (Q : AExit → List Value → AH → Prop), B (bV t ys n (IntKind.i64.wrap (i + 1))) (HS xs d m p b s' t) → once 0 Tryz.prog SLk [] (gh (t, bobB, co, lo)) 3000 150 [3, 6, 8, 10, 60, 61, 62] [] [2, 3, 6, 8, 10] [] (oneLoop (codeOf Tryz.f4) 11) (bV at_ ys n i) (HS xs d m p b (.a xa) now) B Q := by
  obtain ⟨t0, t1, c0, c1, l0, l1⟩ := at3_in hA
  have hn : now ≤ t := hA.le
  rcases v0_or m co with h | ⟨w, h⟩
  · exact ⟨(.ab xa [(IntKind.i64.wrap (t + p), co)]), ⟨(GR_up (t := t) (now := now) hg), (GR_one (t := t) j c0 c1)⟩, fun B Q hB => (rS_ar_b xs ys d at_ n i m p b now t co lo xa.length (xa.flatMap pcC) B Q).mpr (rnd3 hA (h _ _ (ak3 hA (h _ _ (nP_mk (nnL2 _) (nP_mk (nnP1 _) (nP_mk (nnL2 _) (nP_mk (nnP1 _) hB))))))))⟩
  · exact ⟨.a xa, (GR_up (t := t) (now := now) hg), fun B Q hB => (rS_ar_b xs ys d at_ n i m p b now t co lo xa.length (xa.flatMap pcC) B Q).mpr (rnd3 hA (h _ _ (ak3 hA (h _ _ (pick_f (eqv w) (nP_mk (nnL2 _) (nP_mk (nnL2 _) hB)))))))⟩
theorem uS_br_a {m p b : Int} (xs : Array Value) (d : Int) {ys : List Value} {at_ n i now t co lo : Int} (xb : List P2) (hA : At3 ys n i now (t, annB, co, lo)) {j : Nat} (hj : j ≤ 100) (hg : Sh.All (GR now j) (.b xb)) :
    ∃ s' : Sh (List P2), s'.All (GR t (j + 1)) ∧ ∀ (B : List Value → AH → Prop) (Q : AExit → List Value → AH → Prop), B (bV t ys n (IntKind.i64.wrap (i + 1))) (HS xs d m p b s' t) → once 0 Tryz.prog SLk [] (gh (t, annB, co, lo)) 3000 150 [3, 6, 8, 10, 60, 61, 62] [] [2, 3, 6, 8, 10] [] (oneLoop (codeOf Tryz.f4) 11) (bV at_ ys n i) (HS xs d m p b (.b xb) now) B Q := by
  obtain ⟨t0, t1, c0, c1, l0, l1⟩ := at3_in hA
  have hn : now ≤ t := hA.le
  rcases v0_or m co with h | ⟨w, h⟩
  · exact ⟨(.ba xb [(IntKind.i64.wrap (t + p), co)]), ⟨(GR_up (t := t) (now := now) hg), (GR_one (t := t) j c0 c1)⟩, fun B Q hB => (rS_br_a xs ys d at_ n i m p b now t co lo xb.length (xb.flatMap pcC) B Q).mpr (rnd3 hA (h _ _ (ak3 hA (h _ _ (nP_mk (nnL2 _) (nP_mk (nnP1 _) (nP_mk (nnL2 _) (nP_mk (nnP1 _) hB))))))))⟩
  · exact ⟨.b xb, (GR_up (t := t) (now := now) hg), fun B Q hB => (rS_br_a xs ys d at_ n i m p b now t co lo xb.length (xb.flatMap pcC) B Q).mpr (rnd3 hA (h _ _ (ak3 hA (h _ _ (pick_f (eqv w) (nP_mk (nnL2 _) (nP_mk (nnL2 _) hB)))))))⟩
theorem uS_br_b {m p b : Int} (xs : Array Value) (d : Int) {ys : List Value} {at_ n i now t co lo : Int} (xb : List P2) (hA : At3 ys n i now (t, bobB, co, lo)) {j : Nat} (hj : j ≤ 100) (hg : Sh.All (GR now j) (.b xb)) :
    ∃ s' : Sh (List P2), s'.All (GR t (j + 1)) ∧ ∀ (B : List Value → AH → Prop) (Q : AExit → List Value → AH → Prop), B (bV t ys n (IntKind.i64.wrap (i + 1))) (HS xs d m p b s' t) → once 0 Tryz.prog SLk [] (gh (t, bobB, co, lo)) 3000 150 [3, 6, 8, 10, 60, 61, 62] [] [2, 3, 6, 8, 10] [] (oneLoop (codeOf Tryz.f4) 11) (bV at_ ys n i) (HS xs d m p b (.b xb) now) B Q := by
  obtain ⟨t0, t1, c0, c1, l0, l1⟩ := at3_in hA
  have hn : now ≤ t := hA.le
  rcases vR_or (now := now) (m := m) (p := p) (l := lo) (t := t) (c := co) hj hg c0 c1 with ⟨L2, hG, h⟩ | ⟨w, h⟩
  · exact ⟨(.b L2), hG, fun B Q hB => (rS_br_b xs ys d at_ n i m p b now t co lo xb.length (xb.flatMap pcC) B Q).mpr (rnd3 hA (h _ _ (ak3 hA (h _ _ (nP_mk (nnL2 _) (nP_mk (nnL2 _) hB))))))⟩
  · exact ⟨.b xb, (GR_up (t := t) (now := now) hg), fun B Q hB => (rS_br_b xs ys d at_ n i m p b now t co lo xb.length (xb.flatMap pcC) B Q).mpr (rnd3 hA (h _ _ (ak3 hA (h _ _ (pick_f (eqv w) (nP_mk (nnL2 _) (nP_mk (nnL2 _) hB)))))))⟩
theorem uS_arbr_a {m p b : Int} (xs : Array Value) (d : Int) {ys : List Value} {at_ n i now t co lo : Int} (xa : List P2) (xb : List P2) (hA : At3 ys n i now (t, annB, co, lo)) {j : Nat} (hj : j ≤ 100) (hg : Sh.All (GR now j) (.ab xa xb)) :
    ∃ s' : Sh (List P2), s'.All (GR t (j + 1)) ∧ ∀ (B : List Value → AH → Prop) (Q : AExit → List Value → AH → Prop), B (bV t ys n (IntKind.i64.wrap (i + 1))) (HS xs d m p b s' t) → once 0 Tryz.prog SLk [] (gh (t, annB, co, lo)) 3000 150 [3, 6, 8, 10, 60, 61, 62] [] [2, 3, 6, 8, 10] [] (oneLoop (codeOf Tryz.f4) 11) (bV at_ ys n i) (HS xs d m p b (.ab xa xb) now) B Q := by
  obtain ⟨t0, t1, c0, c1, l0, l1⟩ := at3_in hA
  have hn : now ≤ t := hA.le
  rcases vR_or (now := now) (m := m) (p := p) (l := lo) (t := t) (c := co) hj hg.1 c0 c1 with ⟨L2, hG, h⟩ | ⟨w, h⟩
  · exact ⟨(.ab L2 xb), ⟨hG, (GR_up (t := t) (now := now) hg.2)⟩, fun B Q hB => (rS_arbr_a xs ys d at_ n i m p b now t co lo xa.length (xa.flatMap pcC) xb.length (xb.flatMap pcC) B Q).mpr (rnd3 hA (h _ _ (ak3 hA (h _ _ (nP_mk (nnL2 _) (nP_mk (nnL2 _) (nP_mk (nnL2 _) (nP_mk (nnL2 _) hB))))))))⟩
  · exact ⟨.ab xa xb, ⟨(GR_up (t := t) (now := now) hg.1), (GR_up (t := t) (now := now) hg.2)⟩, fun B Q hB => (rS_arbr_a xs ys d at_ n i m p b now t co lo xa.length (xa.flatMap pcC) xb.length (xb.flatMap pcC) B Q).mpr (rnd3 hA (h _ _ (ak3 hA (h _ _ (pick_f (eqv w) (nP_mk (nnL2 _) (nP_mk (nnL2 _) (nP_mk (nnL2 _) (nP_mk (nnL2 _) hB)))))))))⟩
theorem uS_arbr_b {m p b : Int} (xs : Array Value) (d : Int) {ys : List Value} {at_ n i now t co lo : Int} (xa : List P2) (xb : List P2) (hA : At3 ys n i now (t, bobB, co, lo)) {j : Nat} (hj : j ≤ 100) (hg : Sh.All (GR now j) (.ab xa xb)) :
    ∃ s' : Sh (List P2), s'.All (GR t (j + 1)) ∧ ∀ (B : List Value → AH → Prop) (Q : AExit → List Value → AH → Prop), B (bV t ys n (IntKind.i64.wrap (i + 1))) (HS xs d m p b s' t) → once 0 Tryz.prog SLk [] (gh (t, bobB, co, lo)) 3000 150 [3, 6, 8, 10, 60, 61, 62] [] [2, 3, 6, 8, 10] [] (oneLoop (codeOf Tryz.f4) 11) (bV at_ ys n i) (HS xs d m p b (.ab xa xb) now) B Q := by
  obtain ⟨t0, t1, c0, c1, l0, l1⟩ := at3_in hA
  have hn : now ≤ t := hA.le
  rcases vR_or (now := now) (m := m) (p := p) (l := lo) (t := t) (c := co) hj hg.2 c0 c1 with ⟨L2, hG, h⟩ | ⟨w, h⟩
  · exact ⟨(.ab xa L2), ⟨(GR_up (t := t) (now := now) hg.1), hG⟩, fun B Q hB => (rS_arbr_b xs ys d at_ n i m p b now t co lo xa.length (xa.flatMap pcC) xb.length (xb.flatMap pcC) B Q).mpr (rnd3 hA (h _ _ (ak3 hA (h _ _ (nP_mk (nnL2 _) (nP_mk (nnL2 _) (nP_mk (nnL2 _) (nP_mk (nnL2 _) hB))))))))⟩
  · exact ⟨.ab xa xb, ⟨(GR_up (t := t) (now := now) hg.1), (GR_up (t := t) (now := now) hg.2)⟩, fun B Q hB => (rS_arbr_b xs ys d at_ n i m p b now t co lo xa.length (xa.flatMap pcC) xb.length (xb.flatMap pcC) B Q).mpr (rnd3 hA (h _ _ (ak3 hA (h _ _ (pick_f (eqv w) (nP_mk (nnL2 _) (nP_mk (nnL2 _) (nP_mk (nnL2 _) (nP_mk (nnL2 _) hB)))))))))⟩
theorem uS_brar_a {m p b : Int} (xs : Array Value) (d : Int) {ys : List Value} {at_ n i now t co lo : Int} (xb : List P2) (xa : List P2) (hA : At3 ys n i now (t, annB, co, lo)) {j : Nat} (hj : j ≤ 100) (hg : Sh.All (GR now j) (.ba xb xa)) :
    ∃ s' : Sh (List P2), s'.All (GR t (j + 1)) ∧ ∀ (B : List Value → AH → Prop) (Q : AExit → List Value → AH → Prop), B (bV t ys n (IntKind.i64.wrap (i + 1))) (HS xs d m p b s' t) → once 0 Tryz.prog SLk [] (gh (t, annB, co, lo)) 3000 150 [3, 6, 8, 10, 60, 61, 62] [] [2, 3, 6, 8, 10] [] (oneLoop (codeOf Tryz.f4) 11) (bV at_ ys n i) (HS xs d m p b (.ba xb xa) now) B Q := by
  obtain ⟨t0, t1, c0, c1, l0, l1⟩ := at3_in hA
  have hn : now ≤ t := hA.le
  rcases vR_or (now := now) (m := m) (p := p) (l := lo) (t := t) (c := co) hj hg.2 c0 c1 with ⟨L2, hG, h⟩ | ⟨w, h⟩
  · exact ⟨(.ba xb L2), ⟨(GR_up (t := t) (now := now) hg.1), hG⟩, fun B Q hB => (rS_brar_a xs ys d at_ n i m p b now t co lo xb.length (xb.flatMap pcC) xa.length (xa.flatMap pcC) B Q).mpr (rnd3 hA (h _ _ (ak3 hA (h _ _ (nP_mk (nnL2 _) (nP_mk (nnL2 _) (nP_mk (nnL2 _) (nP_mk (nnL2 _) hB))))))))⟩
  · exact ⟨.ba xb xa, ⟨(GR_up (t := t) (now := now) hg.1), (GR_up (t := t) (now := now) hg.2)⟩, fun B Q hB => (rS_brar_a xs ys d at_ n i m p b now t co lo xb.length (xb.flatMap pcC) xa.length (xa.flatMap pcC) B Q).mpr (rnd3 hA (h _ _ (ak3 hA (h _ _ (pick_f (eqv w) (nP_mk (nnL2 _) (nP_mk (nnL2 _) (nP_mk (nnL2 _) (nP_mk (nnL2 _) hB)))))))))⟩
theorem uS_brar_b {m p b : Int} (xs : Array Value) (d : Int) {ys : List Value} {at_ n i now t co lo : Int} (xb : List P2) (xa : List P2) (hA : At3 ys n i now (t, bobB, co, lo)) {j : Nat} (hj : j ≤ 100) (hg : Sh.All (GR now j) (.ba xb xa)) :
    ∃ s' : Sh (List P2), s'.All (GR t (j + 1)) ∧ ∀ (B : List Value → AH → Prop) (Q : AExit → List Value → AH → Prop), B (bV t ys n (IntKind.i64.wrap (i + 1))) (HS xs d m p b s' t) → once 0 Tryz.prog SLk [] (gh (t, bobB, co, lo)) 3000 150 [3, 6, 8, 10, 60, 61, 62] [] [2, 3, 6, 8, 10] [] (oneLoop (codeOf Tryz.f4) 11) (bV at_ ys n i) (HS xs d m p b (.ba xb xa) now) B Q := by
  obtain ⟨t0, t1, c0, c1, l0, l1⟩ := at3_in hA
  have hn : now ≤ t := hA.le
  rcases vR_or (now := now) (m := m) (p := p) (l := lo) (t := t) (c := co) hj hg.1 c0 c1 with ⟨L2, hG, h⟩ | ⟨w, h⟩
  · exact ⟨(.ba L2 xa), ⟨hG, (GR_up (t := t) (now := now) hg.2)⟩, fun B Q hB => (rS_brar_b xs ys d at_ n i m p b now t co lo xb.length (xb.flatMap pcC) xa.length (xa.flatMap pcC) B Q).mpr (rnd3 hA (h _ _ (ak3 hA (h _ _ (nP_mk (nnL2 _) (nP_mk (nnL2 _) (nP_mk (nnL2 _) (nP_mk (nnL2 _) hB))))))))⟩
  · exact ⟨.ba xb xa, ⟨(GR_up (t := t) (now := now) hg.1), (GR_up (t := t) (now := now) hg.2)⟩, fun B Q hB => (rS_brar_b xs ys d at_ n i m p b now t co lo xb.length (xb.flatMap pcC) xa.length (xa.flatMap pcC) B Q).mpr (rnd3 hA (h _ _ (ak3 hA (h _ _ (pick_f (eqv w) (nP_mk (nnL2 _) (nP_mk (nnL2 _) (nP_mk (nnL2 _) (nP_mk (nnL2 _) hB)))))))))⟩
theorem rdS {m p b : Int} (xs : Array Value) (d : Int) : RoundE (HS xs d m p b) GR := by
  intro ys at_ n i now a s j hA hw hj hg
  obtain ⟨t, w, co, lo⟩ := a
  rcases hw with rfl | rfl
  · match s, hg with
    | .e, hg => exact uS_e_a  xs d  hA hj hg
    | .a xa, hg => exact uS_ar_a  xs d xa hA hj hg
    | .b xb, hg => exact uS_br_a  xs d xb hA hj hg
    | .ab xa xb, hg => exact uS_arbr_a  xs d xa xb hA hj hg
    | .ba xb xa, hg => exact uS_brar_a  xs d xb xa hA hj hg
  · match s, hg with
    | .e, hg => exact uS_e_b  xs d  hA hj hg
    | .a xa, hg => exact uS_ar_b  xs d xa hA hj hg
    | .b xb, hg => exact uS_br_b  xs d xb hA hj hg
    | .ab xa xb, hg => exact uS_arbr_b  xs d xa xb hA hj hg
    | .ba xb xa, hg => exact uS_brar_b  xs d xb xa hA hj hg
theorem enS {m p b : Int} (xs : Array Value) (d : Int) : EndE (HS xs d m p b) := by
  intro ys at_ n i now s hni B Q hQ
  match s, hQ with
  | .e, hQ => exact (rS_e_a xs ys d at_ n i m p b now 0 0 0  B Q).mpr (pick_f (decide_eq_false (by omega)) hQ)
  | .a xa, hQ => exact (rS_ar_a xs ys d at_ n i m p b now 0 0 0 xa.length (xa.flatMap pcC) B Q).mpr (pick_f (decide_eq_false (by omega)) (nP_mk (nnL2 _) (nP_mk (nnL2 _) hQ)))
  | .b xb, hQ => exact (rS_br_a xs ys d at_ n i m p b now 0 0 0 xb.length (xb.flatMap pcC) B Q).mpr (pick_f (decide_eq_false (by omega)) (nP_mk (nnL2 _) (nP_mk (nnL2 _) hQ)))
  | .ab xa xb, hQ => exact (rS_arbr_a xs ys d at_ n i m p b now 0 0 0 xa.length (xa.flatMap pcC) xb.length (xb.flatMap pcC) B Q).mpr (pick_f (decide_eq_false (by omega)) (nP_mk (nnL2 _) (nP_mk (nnL2 _) (nP_mk (nnL2 _) (nP_mk (nnL2 _) hQ)))))
  | .ba xb xa, hQ => exact (rS_brar_a xs ys d at_ n i m p b now 0 0 0 xb.length (xb.flatMap pcC) xa.length (xa.flatMap pcC) B Q).mpr (pick_f (decide_eq_false (by omega)) (nP_mk (nnL2 _) (nP_mk (nnL2 _) (nP_mk (nnL2 _) (nP_mk (nnL2 _) hQ)))))
end Go.Proofs.YtbigicdojndnjaaGreatDoor
