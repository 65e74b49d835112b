/-
  Limits: the rounds of one kind (O).
-/
import Derived.Test.YtbigicdojndnjaaGreatDoorLkM
import Derived.Test.YtbigicdojndnjaaGreatDoorLkO
namespace Go.Proofs.YtbigicdojndnjaaGreatDoor
open Go.Ev Go.RowKit LimLaw

def GO (now : Int) (i : Nat) : Option (List P2) → Prop
  | none => True
  | some L => GR now i L
theorem GO_up {t now : Int} {j : Nat} : ∀ {x : Option (List P2)}, GO now j x → GO t (j + 1) x
  | none, _ => trivial
  | some _, h => GR_up (t := t) (now := now) h
def HO (xs : Array Value) (d m p b : Int) : Sh (Option (List P2)) → Int → AH
  | .e, t => hO_e_e xs d m p b t  t 
  | .a none, t => hO_an_an xs d m p b t  t 
  | .a (some xa), t => hO_ar_ar xs d m p b t xa.length (xa.flatMap pcC) t xa.length (xa.flatMap pcC)
  | .b none, t => hO_bn_bn xs d m p b t  t 
  | .b (some xb), t => hO_br_br xs d m p b t xb.length (xb.flatMap pcC) t xb.length (xb.flatMap pcC)
  | .ab none none, t => hO_anbn_anbn xs d m p b t  t 
  | .ab none (some xb), t => hO_anbr_anbr xs d m p b t xb.length (xb.flatMap pcC) t xb.length (xb.flatMap pcC)
  | .ab (some xa) none, t => hO_arbn_arbn xs d m p b t xa.length (xa.flatMap pcC) t xa.length (xa.flatMap pcC)
  | .ab (some xa) (some xb), t => hO_arbr_arbr xs d m p b t xa.length (xa.flatMap pcC) xb.length (xb.flatMap pcC) t xa.length (xa.flatMap pcC) xb.length (xb.flatMap pcC)
  | .ba none none, t => hO_bnan_bnan xs d m p b t  t 
  | .ba none (some xa), t => hO_bnar_bnar xs d m p b t xa.length (xa.flatMap pcC) t xa.length (xa.flatMap pcC)
  | .ba (some xb) none, t => hO_bran_bran xs d m p b t xb.length (xb.flatMap pcC) t xb.length (xb.flatMap pcC)
  | .ba (some xb) (some xa), t => hO_brar_brar xs d m p b t xb.length (xb.flatMap pcC) xa.length (xa.flatMap pcC) t xb.length (xb.flatMap pcC) xa.length (xa.flatMap pcC)
theorem uO_e_a {m p b : Int} (xs : Array Value) (d : Int) {ys : List Value} {at_ n i now t co lo : Int} (hA : At3 ys n i now (t, annB, co, lo)) {j : Nat} (hj : j ≤ 100) (hg : Sh.All (GO now j) (.e)) :
    ∃ s' : Sh (Option (List P2)), s'.All (GO t (j + 1)) ∧ ∀ (B : List Value → AH → Prop) (Q : AExit → List Value → AH → Prop), B (bV t ys n (IntKind.i64.wrap (i + 1))) (HO xs d m p b s' t) → once 0 Tryz.prog SLk [] (gh (t, annB, co, lo)) 3000 150 [3, 6, 8, 10, 60, 61, 62] [] [2, 3, 6, 8, 10] [] (oneLoop (codeOf Tryz.f4) 11) (bV at_ ys n i) (HO xs d m p b (.e) now) B Q := by
  obtain ⟨t0, t1, c0, c1, l0, l1⟩ := at3_in hA
  have hn : now ≤ t := hA.le
  rcases v0_or m co with h | ⟨w, h⟩
  · by_cases q : lo > 0
    · exact ⟨(.a (some [(IntKind.i64.wrap (t + lo), co)])), (GR_one (t := t) j c0 c1), fun B Q hB => (rO_e_a xs ys d at_ n i m p b now t co lo  B Q).mpr (rnd3 hA (h _ _ (pick_t (decide_eq_true q) (ak3 hA (h _ _ (pick_t (decide_eq_true q) (nP_mk (nnP1 _) (nP_mk (nnP1 _) hB))))))))⟩
    · exact ⟨(.a none), trivial, fun B Q hB => (rO_e_a xs ys d at_ n i m p b now t co lo  B Q).mpr (rnd3 hA (h _ _ (pick_f (decide_eq_false q) (ak3 hA (h _ _ (pick_f (decide_eq_false q) hB))))))⟩
  · exact ⟨.e, trivial, fun B Q hB => (rO_e_a xs ys d at_ n i m p b now t co lo  B Q).mpr (rnd3 hA (h _ _ (ak3 hA (h _ _ (pick_f (eqv w) hB)))))⟩
theorem uO_e_b {m p b : Int} (xs : Array Value) (d : Int) {ys : List Value} {at_ n i now t co lo : Int} (hA : At3 ys n i now (t, bobB, co, lo)) {j : Nat} (hj : j ≤ 100) (hg : Sh.All (GO now j) (.e)) :
    ∃ s' : Sh (Option (List P2)), s'.All (GO t (j + 1)) ∧ ∀ (B : List Value → AH → Prop) (Q : AExit → List Value → AH → Prop), B (bV t ys n (IntKind.i64.wrap (i + 1))) (HO xs d m p b s' t) → once 0 Tryz.prog SLk [] (gh (t, bobB, co, lo)) 3000 150 [3, 6, 8, 10, 60, 61, 62] [] [2, 3, 6, 8, 10] [] (oneLoop (codeOf Tryz.f4) 11) (bV at_ ys n i) (HO xs d m p b (.e) now) B Q := by
  obtain ⟨t0, t1, c0, c1, l0, l1⟩ := at3_in hA
  have hn : now ≤ t := hA.le
  rcases v0_or m co with h | ⟨w, h⟩
  · by_cases q : lo > 0
    · exact ⟨(.b (some [(IntKind.i64.wrap (t + lo), co)])), (GR_one (t := t) j c0 c1), fun B Q hB => (rO_e_b xs ys d at_ n i m p b now t co lo  B Q).mpr (rnd3 hA (h _ _ (pick_t (decide_eq_true q) (ak3 hA (h _ _ (pick_t (decide_eq_true q) (nP_mk (nnP1 _) (nP_mk (nnP1 _) hB))))))))⟩
    · exact ⟨(.b none), trivial, fun B Q hB => (rO_e_b xs ys d at_ n i m p b now t co lo  B Q).mpr (rnd3 hA (h _ _ (pick_f (decide_eq_false q) (ak3 hA (h _ _ (pick_f (decide_eq_false q) hB))))))⟩
  · exact ⟨.e, trivial, fun B Q hB => (rO_e_b xs ys d at_ n i m p b now t co lo  B Q).mpr (rnd3 hA (h _ _ (ak3 hA (h _ _ (pick_f (eqv w) hB)))))⟩
theorem uO_an_a {m p b : Int} (xs : Array Value) (d : Int) {ys : List Value} {at_ n i now t co lo : Int} (hA : At3 ys n i now (t, annB, co, lo)) {j : Nat} (hj : j ≤ 100) (hg : Sh.All (GO now j) (.a none)) :
    ∃ s' : Sh (Option (List P2)), s'.All (GO t (j + 1)) ∧ ∀ (B : List Value → AH → Prop) (Q : AExit → List Value → AH → Prop), B (bV t ys n (IntKind.i64.wrap (i + 1))) (HO xs d m p b s' t) → once 0 Tryz.prog SLk [] (gh (t, annB, co, lo)) 3000 150 [3, 6, 8, 10, 60, 61, 62] [] [2, 3, 6, 8, 10] [] (oneLoop (codeOf Tryz.f4) 11) (bV at_ ys n i) (HO xs d m p b (.a none) now) B Q := by
  obtain ⟨t0, t1, c0, c1, l0, l1⟩ := at3_in hA
  have hn : now ≤ t := hA.le
  rcases v0_or m co with h | ⟨w, h⟩
  · by_cases q : lo > 0
    · exact ⟨(.a (some [(IntKind.i64.wrap (t + lo), co)])), (GR_one (t := t) j c0 c1), fun B Q hB => (rO_an_a xs ys d at_ n i m p b now t co lo  B Q).mpr (rnd3 hA (h _ _ (pick_t (decide_eq_true q) (ak3 hA (h _ _ (pick_t (decide_eq_true q) (nP_mk (nnP1 _) (nP_mk (nnP1 _) hB))))))))⟩
    · exact ⟨(.a none), trivial, fun B Q hB => (rO_an_a xs ys d at_ n i m p b now t co lo  B Q).mpr (rnd3 hA (h _ _ (pick_f (decide_eq_false q) (ak3 hA (h _ _ (pick_f (decide_eq_false q) hB))))))⟩
  · exact ⟨.a none, (GO_up (t := t) (now := now) (j := j) (x := none) hg), fun B Q hB => (rO_an_a xs ys d at_ n i m p b now t co lo  B Q).mpr (rnd3 hA (h _ _ (ak3 hA (h _ _ (pick_f (eqv w) hB)))))⟩
theorem uO_an_b {m p b : Int} (xs : Array Value) (d : Int) {ys : List Value} {at_ n i now t co lo : Int} (hA : At3 ys n i now (t, bobB, co, lo)) {j : Nat} (hj : j ≤ 100) (hg : Sh.All (GO now j) (.a none)) :
    ∃ s' : Sh (Option (List P2)), s'.All (GO t (j + 1)) ∧ ∀ (B : List Value → AH → Prop) (Q : AExit → List Value → AH → Prop), B (bV t ys n (IntKind.i64.wrap (i + 1))) (HO xs d m p b s' t) → once 0 Tryz.prog SLk [] (gh (t, bobB, co, lo)) 3000 150 [3, 6, 8, 10, 60, 61, 62] [] [2, 3, 6, 8, 10] [] (oneLoop (codeOf Tryz.f4) 11) (bV at_ ys n i) (HO xs d m p b (.a none) now) B Q := by
  obtain ⟨t0, t1, c0, c1, l0, l1⟩ := at3_in hA
  have hn : now ≤ t := hA.le
  rcases v0_or m co with h | ⟨w, h⟩
  · by_cases q : lo > 0
    · exact ⟨(.ab none (some [(IntKind.i64.wrap (t + lo), co)])), ⟨(GO_up (t := t) (now := now) (j := j) (x := none) hg), (GR_one (t := t) j c0 c1)⟩, fun B Q hB => (rO_an_b xs ys d at_ n i m p b now t co lo  B Q).mpr (rnd3 hA (h _ _ (pick_t (decide_eq_true q) (ak3 hA (h _ _ (pick_t (decide_eq_true q) (nP_mk (nnP1 _) (nP_mk (nnP1 _) hB))))))))⟩
    · exact ⟨(.ab none none), ⟨(GO_up (t := t) (now := now) (j := j) (x := none) hg), trivial⟩, fun B Q hB => (rO_an_b xs ys d at_ n i m p b now t co lo  B Q).mpr (rnd3 hA (h _ _ (pick_f (decide_eq_false q) (ak3 hA (h _ _ (pick_f (decide_eq_false q) hB))))))⟩
  · exact ⟨.a none, (GO_up (t := t) (now := now) (j := j) (x := none) hg), fun B Q hB => (rO_an_b xs ys d at_ n i m p b now t co lo  B Q).mpr (rnd3 hA (h _ _ (ak3 hA (h _ _ (pick_f (eqv w) hB)))))⟩
theorem uO_ar_a {m p b : Int} (xs : Array Value) (d : Int) {ys : List Value} {at_ n i now t co lo : Int} (xa : List P2) (hA : At3 ys n i now (t, annB, co, lo)) {j : Nat} (hj : j ≤ 100) (hg : Sh.All (GO now j) (.a (some xa))) :
    ∃ s' : Sh (Option (List P2)), s'.All (GO t (j + 1)) ∧ ∀ (B : List Value → AH → Prop) (Q : AExit → List Value → AH → Prop), B (bV t ys n (IntKind.i64.wrap (i + 1))) (HO xs d m p b s' t) → once 0 Tryz.prog SLk [] (gh (t, annB, co, lo)) 3000 150 [3, 6, 8, 10, 60, 61, 62] [] [2, 3, 6, 8, 10] [] (oneLoop (codeOf Tryz.f4) 11) (bV at_ ys n i) (HO xs d m p b (.a (some xa)) now) B Q := by
  obtain ⟨t0, t1, c0, c1, l0, l1⟩ := at3_in hA
  have hn : now ≤ t := hA.le
  rcases vL_or (now := now) (m := m) (p := p) (l := lo) (t := t) (c := co) hj hg c0 c1 with ⟨L2, hG, h⟩ | ⟨w, h⟩
  · exact ⟨(.a (some L2)), hG, fun B Q hB => (rO_ar_a xs ys d at_ n i m p b now t co lo xa.length (xa.flatMap pcC) B Q).mpr (rnd3 hA (h _ _ (ak3 hA (h _ _ (nP_mk (nnL2 _) (nP_mk (nnL2 _) hB))))))⟩
  · exact ⟨.a (some xa), (GO_up (t := t) (now := now) (j := j) (x := some xa) hg), fun B Q hB => (rO_ar_a xs ys d at_ n i m p b now t co lo xa.length (xa.flatMap pcC) B Q).mpr (rnd3 hA (h _ _ (ak3 hA (h _ _ (pick_f (eqv w) (nP_mk (nnL2 _) (nP_mk (nnL2 _) hB)))))))⟩
theorem uO_ar_b {m p b : Int} (xs : Array Value) (d : Int) {ys : List Value} {at_ n i now t co lo : Int} (xa : List P2) (hA : At3 ys n i now (t, bobB, co, lo)) {j : Nat} (hj : j ≤ 100) (hg : Sh.All (GO now j) (.a (some xa))) :
    ∃ s' : Sh (Option (List P2)), s'.All (GO t (j + 1)) ∧ ∀ (B : List Value → AH → Prop) (Q : AExit → List Value → AH → Prop), B (bV t ys n (IntKind.i64.wrap (i + 1))) (HO xs d m p b s' t) → once 0 Tryz.prog SLk [] (gh (t, bobB, co, lo)) 3000 150 [3, 6, 8, 10, 60, 61, 62] [] [2, 3, 6, 8, 10] [] (oneLoop (codeOf Tryz.f4) 11) (bV at_ ys n i) (HO xs d m p b (.a (some xa)) now) B Q := by
  obtain ⟨t0, t1, c0, c1, l0, l1⟩ := at3_in hA
  have hn : now ≤ t := hA.le
  rcases v0_or m co with h | ⟨w, h⟩
  · by_cases q : lo > 0
    · exact ⟨(.ab (some xa) (some [(IntKind.i64.wrap (t + lo), co)])), ⟨(GO_up (t := t) (now := now) (j := j) (x := some xa) hg), (GR_one (t := t) j c0 c1)⟩, fun B Q hB => (rO_ar_b xs ys d at_ n i m p b now t co lo xa.length (xa.flatMap pcC) B Q).mpr (rnd3 hA (h _ _ (pick_t (decide_eq_true q) (ak3 hA (h _ _ (pick_t (decide_eq_true q) (nP_mk (nnL2 _) (nP_mk (nnP1 _) (nP_mk (nnL2 _) (nP_mk (nnP1 _) hB))))))))))⟩
    · exact ⟨(.ab (some xa) none), ⟨(GO_up (t := t) (now := now) (j := j) (x := some xa) hg), trivial⟩, fun B Q hB => (rO_ar_b xs ys d at_ n i m p b now t co lo xa.length (xa.flatMap pcC) B Q).mpr (rnd3 hA (h _ _ (pick_f (decide_eq_false q) (ak3 hA (h _ _ (pick_f (decide_eq_false q) (nP_mk (nnL2 _) (nP_mk (nnL2 _) hB))))))))⟩
  · exact ⟨.a (some xa), (GO_up (t := t) (now := now) (j := j) (x := some xa) hg), fun B Q hB => (rO_ar_b xs ys d at_ n i m p b now t co lo xa.length (xa.flatMap pcC) B Q).mpr (rnd3 hA (h _ _ (ak3 hA (h _ _ (pick_f (eqv w) (nP_mk (nnL2 _) (nP_mk (nnL2 _) hB)))))))⟩
theorem uO_bn_a {m p b : Int} (xs : Array Value) (d : Int) {ys : List Value} {at_ n i now t co lo : Int} (hA : At3 ys n i now (t, annB, co, lo)) {j : Nat} (hj : j ≤ 100) (hg : Sh.All (GO now j) (.b none)) :
    ∃ s' : Sh (Option (List P2)), s'.All (GO t (j + 1)) ∧ ∀ (B : List Value → AH → Prop) (Q : AExit → List Value → AH → Prop), B (bV t ys n (IntKind.i64.wrap (i + 1))) (HO xs d m p b s' t) → once 0 Tryz.prog SLk [] (gh (t, annB, co, lo)) 3000 150 [3, 6, 8, 10, 60, 61, 62] [] [2, 3, 6, 8, 10] [] (oneLoop (codeOf Tryz.f4) 11) (bV at_ ys n i) (HO xs d m p b (.b none) now) B Q := by
  obtain ⟨t0, t1, c0, c1, l0, l1⟩ := at3_in hA
  have hn : now ≤ t := hA.le
  rcases v0_or m co with h | ⟨w, h⟩
  · by_cases q : lo > 0
    · exact ⟨(.ba none (some [(IntKind.i64.wrap (t + lo), co)])), ⟨(GO_up (t := t) (now := now) (j := j) (x := none) hg), (GR_one (t := t) j c0 c1)⟩, fun B Q hB => (rO_bn_a xs ys d at_ n i m p b now t co lo  B Q).mpr (rnd3 hA (h _ _ (pick_t (decide_eq_true q) (ak3 hA (h _ _ (pick_t (decide_eq_true q) (nP_mk (nnP1 _) (nP_mk (nnP1 _) hB))))))))⟩
    · exact ⟨(.ba none none), ⟨(GO_up (t := t) (now := now) (j := j) (x := none) hg), trivial⟩, fun B Q hB => (rO_bn_a xs ys d at_ n i m p b now t co lo  B Q).mpr (rnd3 hA (h _ _ (pick_f (decide_eq_false q) (ak3 hA (h _ _ (pick_f (decide_eq_false q) hB))))))⟩
  · exact ⟨.b none, (GO_up (t := t) (now := now) (j := j) (x := none) hg), fun B Q hB => (rO_bn_a xs ys d at_ n i m p b now t co lo  B Q).mpr (rnd3 hA (h _ _ (ak3 hA (h _ _ (pick_f (eqv w) hB)))))⟩
theorem uO_bn_b {m p b : Int} (xs : Array Value) (d : Int) {ys : List Value} {at_ n i now t co lo : Int} (hA : At3 ys n i now (t, bobB, co, lo)) {j : Nat} (hj : j ≤ 100) (hg : Sh.All (GO now j) (.b none)) :
    ∃ s' : Sh (Option (List P2)), s'.All (GO t (j + 1)) ∧ ∀ (B : List Value → AH → Prop) (Q : AExit → List Value → AH → Prop), B (bV t ys n (IntKind.i64.wrap (i + 1))) (HO xs d m p b s' t) → once 0 Tryz.prog SLk [] (gh (t, bobB, co, lo)) 3000 150 [3, 6, 8, 10, 60, 61, 62] [] [2, 3, 6, 8, 10] [] (oneLoop (codeOf Tryz.f4) 11) (bV at_ ys n i) (HO xs d m p b (.b none) now) B Q := by
  obtain ⟨t0, t1, c0, c1, l0, l1⟩ := at3_in hA
  have hn : now ≤ t := hA.le
  rcases v0_or m co with h | ⟨w, h⟩
  · by_cases q : lo > 0
    · exact ⟨(.b (some [(IntKind.i64.wrap (t + lo), co)])), (GR_one (t := t) j c0 c1), fun B Q hB => (rO_bn_b xs ys d at_ n i m p b now t co lo  B Q).mpr (rnd3 hA (h _ _ (pick_t (decide_eq_true q) (ak3 hA (h _ _ (pick_t (decide_eq_true q) (nP_mk (nnP1 _) (nP_mk (nnP1 _) hB))))))))⟩
    · exact ⟨(.b none), trivial, fun B Q hB => (rO_bn_b xs ys d at_ n i m p b now t co lo  B Q).mpr (rnd3 hA (h _ _ (pick_f (decide_eq_false q) (ak3 hA (h _ _ (pick_f (decide_eq_false q) hB))))))⟩
  · exact ⟨.b none, (GO_up (t := t) (now := now) (j := j) (x := none) hg), fun B Q hB => (rO_bn_b xs ys d at_ n i m p b now t co lo  B Q).mpr (rnd3 hA (h _ _ (ak3 hA (h _ _ (pick_f (eqv w) hB)))))⟩
theorem uO_br_a {m p b : Int} (xs : Array Value) (d : Int) {ys : List Value} {at_ n i now t co lo : Int} (xb : List P2) (hA : At3 ys n i now (t, annB, co, lo)) {j : Nat} (hj : j ≤ 100) (hg : Sh.All (GO now j) (.b (some xb))) :
    ∃ s' : Sh (Option (List P2)), s'.All (GO t (j + 1)) ∧ ∀ (B : List Value → AH → Prop) (Q : AExit → List Value → AH → Prop), B (bV t ys n (IntKind.i64.wrap (i + 1))) (HO xs d m p b s' t) → once 0 Tryz.prog SLk [] (gh (t, annB, co, lo)) 3000 150 [3, 6, 8, 10, 60, 61, 62] [] [2, 3, 6, 8, 10] [] (oneLoop (codeOf Tryz.f4) 11) (bV at_ ys n i) (HO xs d m p b (.b (some xb)) now) B Q := by
  obtain ⟨t0, t1, c0, c1, l0, l1⟩ := at3_in hA
  have hn : now ≤ t := hA.le
  rcases v0_or m co with h | ⟨w, h⟩
  · by_cases q : lo > 0
    · exact ⟨(.ba (some xb) (some [(IntKind.i64.wrap (t + lo), co)])), ⟨(GO_up (t := t) (now := now) (j := j) (x := some xb) hg), (GR_one (t := t) j c0 c1)⟩, fun B Q hB => (rO_br_a xs ys d at_ n i m p b now t co lo xb.length (xb.flatMap pcC) B Q).mpr (rnd3 hA (h _ _ (pick_t (decide_eq_true q) (ak3 hA (h _ _ (pick_t (decide_eq_true q) (nP_mk (nnL2 _) (nP_mk (nnP1 _) (nP_mk (nnL2 _) (nP_mk (nnP1 _) hB))))))))))⟩
    · exact ⟨(.ba (some xb) none), ⟨(GO_up (t := t) (now := now) (j := j) (x := some xb) hg), trivial⟩, fun B Q hB => (rO_br_a xs ys d at_ n i m p b now t co lo xb.length (xb.flatMap pcC) B Q).mpr (rnd3 hA (h _ _ (pick_f (decide_eq_false q) (ak3 hA (h _ _ (pick_f (decide_eq_false q) (nP_mk (nnL2 _) (nP_mk (nnL2 _) hB))))))))⟩
  · exact ⟨.b (some xb), (GO_up (t := t) (now := now) (j := j) (x := some xb) hg), fun B Q hB => (rO_br_a xs ys d at_ n i m p b now t co lo xb.length (xb.flatMap pcC) B Q).mpr (rnd3 hA (h _ _ (ak3 hA (h _ _ (pick_f (eqv w) (nP_mk (nnL2 _) (nP_mk (nnL2 _) hB)))))))⟩
theorem uO_br_b {m p b : Int} (xs : Array Value) (d : Int) {ys : List Value} {at_ n i now t co lo : Int} (xb : List P2) (hA : At3 ys n i now (t, bobB, co, lo)) {j : Nat} (hj : j ≤ 100) (hg : Sh.All (GO now j) (.b (some xb))) :
    ∃ s' : Sh (Option (List P2)), s'.All (GO t (j + 1)) ∧ ∀ (B : List Value → AH → Prop) (Q : AExit → List Value → AH → Prop), B (bV t ys n (IntKind.i64.wrap (i + 1))) (HO xs d m p b s' t) → once 0 Tryz.prog SLk [] (gh (t, bobB, co, lo)) 3000 150 [3, 6, 8, 10, 60, 61, 62] [] [2, 3, 6, 8, 10] [] (oneLoop (codeOf Tryz.f4) 11) (bV at_ ys n i) (HO xs d m p b (.b (some xb)) now) B Q := by
  obtain ⟨t0, t1, c0, c1, l0, l1⟩ := at3_in hA
  have hn : now ≤ t := hA.le
  rcases vL_or (now := now) (m := m) (p := p) (l := lo) (t := t) (c := co) hj hg c0 c1 with ⟨L2, hG, h⟩ | ⟨w, h⟩
  · exact ⟨(.b (some L2)), hG, fun B Q hB => (rO_br_b xs ys d at_ n i m p b now t co lo xb.length (xb.flatMap pcC) B Q).mpr (rnd3 hA (h _ _ (ak3 hA (h _ _ (nP_mk (nnL2 _) (nP_mk (nnL2 _) hB))))))⟩
  · exact ⟨.b (some xb), (GO_up (t := t) (now := now) (j := j) (x := some xb) hg), fun B Q hB => (rO_br_b xs ys d at_ n i m p b now t co lo xb.length (xb.flatMap pcC) B Q).mpr (rnd3 hA (h _ _ (ak3 hA (h _ _ (pick_f (eqv w) (nP_mk (nnL2 _) (nP_mk (nnL2 _) hB)))))))⟩
theorem uO_anbn_a {m p b : Int} (xs : Array Value) (d : Int) {ys : List Value} {at_ n i now t co lo : Int} (hA : At3 ys n i now (t, annB, co, lo)) {j : Nat} (hj : j ≤ 100) (hg : Sh.All (GO now j) (.ab none none)) :
    ∃ s' : Sh (Option (List P2)), s'.All (GO t (j + 1)) ∧ ∀ (B : List Value → AH → Prop) (Q : AExit → List Value → AH → Prop), B (bV t ys n (IntKind.i64.wrap (i + 1))) (HO xs d m p b s' t) → once 0 Tryz.prog SLk [] (gh (t, annB, co, lo)) 3000 150 [3, 6, 8, 10, 60, 61, 62] [] [2, 3, 6, 8, 10] [] (oneLoop (codeOf Tryz.f4) 11) (bV at_ ys n i) (HO xs d m p b (.ab none none) now) B Q := by
  obtain ⟨t0, t1, c0, c1, l0, l1⟩ := at3_in hA
  have hn : now ≤ t := hA.le
  rcases v0_or m co with h | ⟨w, h⟩
  · by_cases q : lo > 0
    · exact ⟨(.ab (some [(IntKind.i64.wrap (t + lo), co)]) none), ⟨(GR_one (t := t) j c0 c1), (GO_up (t := t) (now := now) (j := j) (x := none) hg.2)⟩, fun B Q hB => (rO_anbn_a xs ys d at_ n i m p b now t co lo  B Q).mpr (rnd3 hA (h _ _ (pick_t (decide_eq_true q) (ak3 hA (h _ _ (pick_t (decide_eq_true q) (nP_mk (nnP1 _) (nP_mk (nnP1 _) hB))))))))⟩
    · exact ⟨(.ab none none), ⟨trivial, (GO_up (t := t) (now := now) (j := j) (x := none) hg.2)⟩, fun B Q hB => (rO_anbn_a xs ys d at_ n i m p b now t co lo  B Q).mpr (rnd3 hA (h _ _ (pick_f (decide_eq_false q) (ak3 hA (h _ _ (pick_f (decide_eq_false q) hB))))))⟩
  · exact ⟨.ab none none, ⟨(GO_up (t := t) (now := now) (j := j) (x := none) hg.1), (GO_up (t := t) (now := now) (j := j) (x := none) hg.2)⟩, fun B Q hB => (rO_anbn_a xs ys d at_ n i m p b now t co lo  B Q).mpr (rnd3 hA (h _ _ (ak3 hA (h _ _ (pick_f (eqv w) hB)))))⟩
theorem uO_anbn_b {m p b : Int} (xs : Array Value) (d : Int) {ys : List Value} {at_ n i now t co lo : Int} (hA : At3 ys n i now (t, bobB, co, lo)) {j : Nat} (hj : j ≤ 100) (hg : Sh.All (GO now j) (.ab none none)) :
    ∃ s' : Sh (Option (List P2)), s'.All (GO t (j + 1)) ∧ ∀ (B : List Value → AH → Prop) (Q : AExit → List Value → AH → Prop), B (bV t ys n (IntKind.i64.wrap (i + 1))) (HO xs d m p b s' t) → once 0 Tryz.prog SLk [] (gh (t, bobB, co, lo)) 3000 150 [3, 6, 8, 10, 60, 61, 62] [] [2, 3, 6, 8, 10] [] (oneLoop (codeOf Tryz.f4) 11) (bV at_ ys n i) (HO xs d m p b (.ab none none) now) B Q := by
  obtain ⟨t0, t1, c0, c1, l0, l1⟩ := at3_in hA
  have hn : now ≤ t := hA.le
  rcases v0_or m co with h | ⟨w, h⟩
  · by_cases q : lo > 0
    · exact ⟨(.ab none (some [(IntKind.i64.wrap (t + lo), co)])), ⟨(GO_up (t := t) (now := now) (j := j) (x := none) hg.1), (GR_one (t := t) j c0 c1)⟩, fun B Q hB => (rO_anbn_b xs ys d at_ n i m p b now t co lo  B Q).mpr (rnd3 hA (h _ _ (pick_t (decide_eq_true q) (ak3 hA (h _ _ (pick_t (decide_eq_true q) (nP_mk (nnP1 _) (nP_mk (nnP1 _) hB))))))))⟩
    · exact ⟨(.ab none none), ⟨(GO_up (t := t) (now := now) (j := j) (x := none) hg.1), trivial⟩, fun B Q hB => (rO_anbn_b xs ys d at_ n i m p b now t co lo  B Q).mpr (rnd3 hA (h _ _ (pick_f (decide_eq_false q) (ak3 hA (h _ _ (pick_f (decide_eq_false q) hB))))))⟩
  · exact ⟨.ab none none, ⟨(GO_up (t := t) (now := now) (j := j) (x := none) hg.1), (GO_up (t := t) (now := now) (j := j) (x := none) hg.2)⟩, fun B Q hB => (rO_anbn_b xs ys d at_ n i m p b now t co lo  B Q).mpr (rnd3 hA (h _ _ (ak3 hA (h _ _ (pick_f (eqv w) hB)))))⟩
theorem uO_anbr_a {m p b : Int} (xs : Array Value) (d : Int) {ys : List Value} {at_ n i now t co lo : Int} (xb : List P2) (hA : At3 ys n i now (t, annB, co, lo)) {j : Nat} (hj : j ≤ 100) (hg : Sh.All (GO now j) (.ab none (some xb))) :
    ∃ s' : Sh (Option (List P2)), s'.All (GO t (j + 1)) ∧ ∀ (B : List Value → AH → Prop) (Q : AExit → List Value → AH → Prop), B (bV t ys n (IntKind.i64.wrap (i + 1))) (HO xs d m p b s' t) → once 0 Tryz.prog SLk [] (gh (t, annB, co, lo)) 3000 150 [3, 6, 8, 10, 60, 61, 62] [] [2, 3, 6, 8, 10] [] (oneLoop (codeOf Tryz.f4) 11) (bV at_ ys n i) (HO xs d m p b (.ab none (some xb)) now) B Q := by
  obtain ⟨t0, t1, c0, c1, l0, l1⟩ := at3_in hA
  have hn : now ≤ t := hA.le
  rcases v0_or m co with h | ⟨w, h⟩
  · by_cases q : lo > 0
    · exact ⟨(.ab (some [(IntKind.i64.wrap (t + lo), co)]) (some xb)), ⟨(GR_one (t := t) j c0 c1), (GO_up (t := t) (now := now) (j := j) (x := some xb) hg.2)⟩, fun B Q hB => (rO_anbr_a xs ys d at_ n i m p b now t co lo xb.length (xb.flatMap pcC) B Q).mpr (rnd3 hA (h _ _ (pick_t (decide_eq_true q) (ak3 hA (h _ _ (pick_t (decide_eq_true q) (nP_mk (nnP1 _) (nP_mk (nnL2 _) (nP_mk (nnP1 _) (nP_mk (nnL2 _) hB))))))))))⟩
    · exact ⟨(.ab none (some xb)), ⟨trivial, (GO_up (t := t) (now := now) (j := j) (x := some xb) hg.2)⟩, fun B Q hB => (rO_anbr_a xs ys d at_ n i m p b now t co lo xb.length (xb.flatMap pcC) B Q).mpr (rnd3 hA (h _ _ (pick_f (decide_eq_false q) (ak3 hA (h _ _ (pick_f (decide_eq_false q) (nP_mk (nnL2 _) (nP_mk (nnL2 _) hB))))))))⟩
  · exact ⟨.ab none (some xb), ⟨(GO_up (t := t) (now := now) (j := j) (x := none) hg.1), (GO_up (t := t) (now := now) (j := j) (x := some xb) hg.2)⟩, fun B Q hB => (rO_anbr_a xs ys d at_ n i m p b now t co lo xb.length (xb.flatMap pcC) B Q).mpr (rnd3 hA (h _ _ (ak3 hA (h _ _ (pick_f (eqv w) (nP_mk (nnL2 _) (nP_mk (nnL2 _) hB)))))))⟩
theorem uO_anbr_b {m p b : Int} (xs : Array Value) (d : Int) {ys : List Value} {at_ n i now t co lo : Int} (xb : List P2) (hA : At3 ys n i now (t, bobB, co, lo)) {j : Nat} (hj : j ≤ 100) (hg : Sh.All (GO now j) (.ab none (some xb))) :
    ∃ s' : Sh (Option (List P2)), s'.All (GO t (j + 1)) ∧ ∀ (B : List Value → AH → Prop) (Q : AExit → List Value → AH → Prop), B (bV t ys n (IntKind.i64.wrap (i + 1))) (HO xs d m p b s' t) → once 0 Tryz.prog SLk [] (gh (t, bobB, co, lo)) 3000 150 [3, 6, 8, 10, 60, 61, 62] [] [2, 3, 6, 8, 10] [] (oneLoop (codeOf Tryz.f4) 11) (bV at_ ys n i) (HO xs d m p b (.ab none (some xb)) now) B Q := by
  obtain ⟨t0, t1, c0, c1, l0, l1⟩ := at3_in hA
  have hn : now ≤ t := hA.le
  rcases vL_or (now := now) (m := m) (p := p) (l := lo) (t := t) (c := co) hj hg.2 c0 c1 with ⟨L2, hG, h⟩ | ⟨w, h⟩
  · exact ⟨(.ab none (some L2)), ⟨(GO_up (t := t) (now := now) (j := j) (x := none) hg.1), hG⟩, fun B Q hB => (rO_anbr_b xs ys d at_ n i m p b now t co lo xb.length (xb.flatMap pcC) B Q).mpr (rnd3 hA (h _ _ (ak3 hA (h _ _ (nP_mk (nnL2 _) (nP_mk (nnL2 _) hB))))))⟩
  · exact ⟨.ab none (some xb), ⟨(GO_up (t := t) (now := now) (j := j) (x := none) hg.1), (GO_up (t := t) (now := now) (j := j) (x := some xb) hg.2)⟩, fun B Q hB => (rO_anbr_b xs ys d at_ n i m p b now t co lo xb.length (xb.flatMap pcC) B Q).mpr (rnd3 hA (h _ _ (ak3 hA (h _ _ (pick_f (eqv w) (nP_mk (nnL2 _) (nP_mk (nnL2 _) hB)))))))⟩
theorem uO_arbn_a {m p b : Int} (xs : Array Value) (d : Int) {ys : List Value} {at_ n i now t co lo : Int} (xa : List P2) (hA : At3 ys n i now (t, annB, co, lo)) {j : Nat} (hj : j ≤ 100) (hg : Sh.All (GO now j) (.ab (some xa) none)) :
    ∃ s' : Sh (Option (List P2)), s'.All (GO t (j + 1)) ∧ ∀ (B : List Value → AH → Prop) (Q : AExit → List Value → AH → Prop), B (bV t ys n (IntKind.i64.wrap (i + 1))) (HO xs d m p b s' t) → once 0 Tryz.prog SLk [] (gh (t, annB, co, lo)) 3000 150 [3, 6, 8, 10, 60, 61, 62] [] [2, 3, 6, 8, 10] [] (oneLoop (codeOf Tryz.f4) 11) (bV at_ ys n i) (HO xs d m p b (.ab (some xa) none) now) B Q := by
  obtain ⟨t0, t1, c0, c1, l0, l1⟩ := at3_in hA
  have hn : now ≤ t := hA.le
  rcases vL_or (now := now) (m := m) (p := p) (l := lo) (t := t) (c := co) hj hg.1 c0 c1 with ⟨L2, hG, h⟩ | ⟨w, h⟩
  · exact ⟨(.ab (some L2) none), ⟨hG, (GO_up (t := t) (now := now) (j := j) (x := none) hg.2)⟩, fun B Q hB => (rO_arbn_a xs ys d at_ n i m p b now t co lo xa.length (xa.flatMap pcC) B Q).mpr (rnd3 hA (h _ _ (ak3 hA (h _ _ (nP_mk (nnL2 _) (nP_mk (nnL2 _) hB))))))⟩
  · exact ⟨.ab (some xa) none, ⟨(GO_up (t := t) (now := now) (j := j) (x := some xa) hg.1), (GO_up (t := t) (now := now) (j := j) (x := none) hg.2)⟩, fun B Q hB => (rO_arbn_a xs ys d at_ n i m p b now t co lo xa.length (xa.flatMap pcC) B Q).mpr (rnd3 hA (h _ _ (ak3 hA (h _ _ (pick_f (eqv w) (nP_mk (nnL2 _) (nP_mk (nnL2 _) hB)))))))⟩
theorem uO_arbn_b {m p b : Int} (xs : Array Value) (d : Int) {ys : List Value} {at_ n i now t co lo : Int} (xa : List P2) (hA : At3 ys n i now (t, bobB, co, lo)) {j : Nat} (hj : j ≤ 100) (hg : Sh.All (GO now j) (.ab (some xa) none)) :
    ∃ s' : Sh (Option (List P2)), s'.All (GO t (j + 1)) ∧ ∀ (B : List Value → AH → Prop) (Q : AExit → List Value → AH → Prop), B (bV t ys n (IntKind.i64.wrap (i + 1))) (HO xs d m p b s' t) → once 0 Tryz.prog SLk [] (gh (t, bobB, co, lo)) 3000 150 [3, 6, 8, 10, 60, 61, 62] [] [2, 3, 6, 8, 10] [] (oneLoop (codeOf Tryz.f4) 11) (bV at_ ys n i) (HO xs d m p b (.ab (some xa) none) now) B Q := by
  obtain ⟨t0, t1, c0, c1, l0, l1⟩ := at3_in hA
  have hn : now ≤ t := hA.le
  rcases v0_or m co with h | ⟨w, h⟩
  · by_cases q : lo > 0
    · exact ⟨(.ab (some xa) (some [(IntKind.i64.wrap (t + lo), co)])), ⟨(GO_up (t := t) (now := now) (j := j) (x := some xa) hg.1), (GR_one (t := t) j c0 c1)⟩, fun B Q hB => (rO_arbn_b xs ys d at_ n i m p b now t co lo xa.length (xa.flatMap pcC) B Q).mpr (rnd3 hA (h _ _ (pick_t (decide_eq_true q) (ak3 hA (h _ _ (pick_t (decide_eq_true q) (nP_mk (nnL2 _) (nP_mk (nnP1 _) (nP_mk (nnL2 _) (nP_mk (nnP1 _) hB))))))))))⟩
    · exact ⟨(.ab (some xa) none), ⟨(GO_up (t := t) (now := now) (j := j) (x := some xa) hg.1), trivial⟩, fun B Q hB => (rO_arbn_b xs ys d at_ n i m p b now t co lo xa.length (xa.flatMap pcC) B Q).mpr (rnd3 hA (h _ _ (pick_f (decide_eq_false q) (ak3 hA (h _ _ (pick_f (decide_eq_false q) (nP_mk (nnL2 _) (nP_mk (nnL2 _) hB))))))))⟩
  · exact ⟨.ab (some xa) none, ⟨(GO_up (t := t) (now := now) (j := j) (x := some xa) hg.1), (GO_up (t := t) (now := now) (j := j) (x := none) hg.2)⟩, fun B Q hB => (rO_arbn_b xs ys d at_ n i m p b now t co lo xa.length (xa.flatMap pcC) B Q).mpr (rnd3 hA (h _ _ (ak3 hA (h _ _ (pick_f (eqv w) (nP_mk (nnL2 _) (nP_mk (nnL2 _) hB)))))))⟩
theorem uO_arbr_a {m p b : Int} (xs : Array Value) (d : Int) {ys : List Value} {at_ n i now t co lo : Int} (xa : List P2) (xb : List P2) (hA : At3 ys n i now (t, annB, co, lo)) {j : Nat} (hj : j ≤ 100) (hg : Sh.All (GO now j) (.ab (some xa) (some xb))) :
    ∃ s' : Sh (Option (List P2)), s'.All (GO t (j + 1)) ∧ ∀ (B : List Value → AH → Prop) (Q : AExit → List Value → AH → Prop), B (bV t ys n (IntKind.i64.wrap (i + 1))) (HO xs d m p b s' t) → once 0 Tryz.prog SLk [] (gh (t, annB, co, lo)) 3000 150 [3, 6, 8, 10, 60, 61, 62] [] [2, 3, 6, 8, 10] [] (oneLoop (codeOf Tryz.f4) 11) (bV at_ ys n i) (HO xs d m p b (.ab (some xa) (some xb)) now) B Q := by
  obtain ⟨t0, t1, c0, c1, l0, l1⟩ := at3_in hA
  have hn : now ≤ t := hA.le
  rcases vL_or (now := now) (m := m) (p := p) (l := lo) (t := t) (c := co) hj hg.1 c0 c1 with ⟨L2, hG, h⟩ | ⟨w, h⟩
  · exact ⟨(.ab (some L2) (some xb)), ⟨hG, (GO_up (t := t) (now := now) (j := j) (x := some xb) hg.2)⟩, fun B Q hB => (rO_arbr_a xs ys d at_ n i m p b now t co lo xa.length (xa.flatMap pcC) xb.length (xb.flatMap pcC) B Q).mpr (rnd3 hA (h _ _ (ak3 hA (h _ _ (nP_mk (nnL2 _) (nP_mk (nnL2 _) (nP_mk (nnL2 _) (nP_mk (nnL2 _) hB))))))))⟩
  · exact ⟨.ab (some xa) (some xb), ⟨(GO_up (t := t) (now := now) (j := j) (x := some xa) hg.1), (GO_up (t := t) (now := now) (j := j) (x := some xb) hg.2)⟩, fun B Q hB => (rO_arbr_a xs ys d at_ n i m p b now t co lo xa.length (xa.flatMap pcC) xb.length (xb.flatMap pcC) B Q).mpr (rnd3 hA (h _ _ (ak3 hA (h _ _ (pick_f (eqv w) (nP_mk (nnL2 _) (nP_mk (nnL2 _) (nP_mk (nnL2 _) (nP_mk (nnL2 _) hB)))))))))⟩
theorem uO_arbr_b {m p b : Int} (xs : Array Value) (d : Int) {ys : List Value} {at_ n i now t co lo : Int} (xa : List P2) (xb : List P2) (hA : At3 ys n i now (t, bobB, co, lo)) {j : Nat} (hj : j ≤ 100) (hg : Sh.All (GO now j) (.ab (some xa) (some xb))) :
    ∃ s' : Sh (Option (List P2)), s'.All (GO t (j + 1)) ∧ ∀ (B : List Value → AH → Prop) (Q : AExit → List Value → AH → Prop), B (bV t ys n (IntKind.i64.wrap (i + 1))) (HO xs d m p b s' t) → once 0 Tryz.prog SLk [] (gh (t, bobB, co, lo)) 3000 150 [3, 6, 8, 10, 60, 61, 62] [] [2, 3, 6, 8, 10] [] (oneLoop (codeOf Tryz.f4) 11) (bV at_ ys n i) (HO xs d m p b (.ab (some xa) (some xb)) now) B Q := by
  obtain ⟨t0, t1, c0, c1, l0, l1⟩ := at3_in hA
  have hn : now ≤ t := hA.le
  rcases vL_or (now := now) (m := m) (p := p) (l := lo) (t := t) (c := co) hj hg.2 c0 c1 with ⟨L2, hG, h⟩ | ⟨w, h⟩
  · exact ⟨(.ab (some xa) (some L2)), ⟨(GO_up (t := t) (now := now) (j := j) (x := some xa) hg.1), hG⟩, fun B Q hB => (rO_arbr_b xs ys d at_ n i m p b now t co lo xa.length (xa.flatMap pcC) xb.length (xb.flatMap pcC) B Q).mpr (rnd3 hA (h _ _ (ak3 hA (h _ _ (nP_mk (nnL2 _) (nP_mk (nnL2 _) (nP_mk (nnL2 _) (nP_mk (nnL2 _) hB))))))))⟩
  · exact ⟨.ab (some xa) (some xb), ⟨(GO_up (t := t) (now := now) (j := j) (x := some xa) hg.1), (GO_up (t := t) (now := now) (j := j) (x := some xb) hg.2)⟩, fun B Q hB => (rO_arbr_b xs ys d at_ n i m p b now t co lo xa.length (xa.flatMap pcC) xb.length (xb.flatMap pcC) B Q).mpr (rnd3 hA (h _ _ (ak3 hA (h _ _ (pick_f (eqv w) (nP_mk (nnL2 _) (nP_mk (nnL2 _) (nP_mk (nnL2 _) (nP_mk (nnL2 _) hB)))))))))⟩
theorem uO_bnan_a {m p b : Int} (xs : Array Value) (d : Int) {ys : List Value} {at_ n i now t co lo : Int} (hA : At3 ys n i now (t, annB, co, lo)) {j : Nat} (hj : j ≤ 100) (hg : Sh.All (GO now j) (.ba none none)) :
    ∃ s' : Sh (Option (List P2)), s'.All (GO t (j + 1)) ∧ ∀ (B : List Value → AH → Prop) (Q : AExit → List Value → AH → Prop), B (bV t ys n (IntKind.i64.wrap (i + 1))) (HO xs d m p b s' t) → once 0 Tryz.prog SLk [] (gh (t, annB, co, lo)) 3000 150 [3, 6, 8, 10, 60, 61, 62] [] [2, 3, 6, 8, 10] [] (oneLoop (codeOf Tryz.f4) 11) (bV at_ ys n i) (HO xs d m p b (.ba none none) now) B Q := by
  obtain ⟨t0, t1, c0, c1, l0, l1⟩ := at3_in hA
  have hn : now ≤ t := hA.le
  rcases v0_or m co with h | ⟨w, h⟩
  · by_cases q : lo > 0
    · exact ⟨(.ba none (some [(IntKind.i64.wrap (t + lo), co)])), ⟨(GO_up (t := t) (now := now) (j := j) (x := none) hg.1), (GR_one (t := t) j c0 c1)⟩, fun B Q hB => (rO_bnan_a xs ys d at_ n i m p b now t co lo  B Q).mpr (rnd3 hA (h _ _ (pick_t (decide_eq_true q) (ak3 hA (h _ _ (pick_t (decide_eq_true q) (nP_mk (nnP1 _) (nP_mk (nnP1 _) hB))))))))⟩
    · exact ⟨(.ba none none), ⟨(GO_up (t := t) (now := now) (j := j) (x := none) hg.1), trivial⟩, fun B Q hB => (rO_bnan_a xs ys d at_ n i m p b now t co lo  B Q).mpr (rnd3 hA (h _ _ (pick_f (decide_eq_false q) (ak3 hA (h _ _ (pick_f (decide_eq_false q) hB))))))⟩
  · exact ⟨.ba none none, ⟨(GO_up (t := t) (now := now) (j := j) (x := none) hg.1), (GO_up (t := t) (now := now) (j := j) (x := none) hg.2)⟩, fun B Q hB => (rO_bnan_a xs ys d at_ n i m p b now t co lo  B Q).mpr (rnd3 hA (h _ _ (ak3 hA (h _ _ (pick_f (eqv w) hB)))))⟩
theorem uO_bnan_b {m p b : Int} (xs : Array Value) (d : Int) {ys : List Value} {at_ n i now t co lo : Int} (hA : At3 ys n i now (t, bobB, co, lo)) {j : Nat} (hj : j ≤ 100) (hg : Sh.All (GO now j) (.ba none none)) :
    ∃ s' : Sh (Option (List P2)), s'.All (GO t (j + 1)) ∧ ∀ (B : List Value → AH → Prop) (Q : AExit → List Value → AH → Prop), B (bV t ys n (IntKind.i64.wrap (i + 1))) (HO xs d m p b s' t) → once 0 Tryz.prog SLk [] (gh (t, bobB, co, lo)) 3000 150 [3, 6, 8, 10, 60, 61, 62] [] [2, 3, 6, 8, 10] [] (oneLoop (codeOf Tryz.f4) 11) (bV at_ ys n i) (HO xs d m p b (.ba none none) now) B Q := by
  obtain ⟨t0, t1, c0, c1, l0, l1⟩ := at3_in hA
  have hn : now ≤ t := hA.le
  rcases v0_or m co with h | ⟨w, h⟩
  · by_cases q : lo > 0
    · exact ⟨(.ba (some [(IntKind.i64.wrap (t + lo), co)]) none), ⟨(GR_one (t := t) j c0 c1), (GO_up (t := t) (now := now) (j := j) (x := none) hg.2)⟩, fun B Q hB => (rO_bnan_b xs ys d at_ n i m p b now t co lo  B Q).mpr (rnd3 hA (h _ _ (pick_t (decide_eq_true q) (ak3 hA (h _ _ (pick_t (decide_eq_true q) (nP_mk (nnP1 _) (nP_mk (nnP1 _) hB))))))))⟩
    · exact ⟨(.ba none none), ⟨trivial, (GO_up (t := t) (now := now) (j := j) (x := none) hg.2)⟩, fun B Q hB => (rO_bnan_b xs ys d at_ n i m p b now t co lo  B Q).mpr (rnd3 hA (h _ _ (pick_f (decide_eq_false q) (ak3 hA (h _ _ (pick_f (decide_eq_false q) hB))))))⟩
  · exact ⟨.ba none none, ⟨(GO_up (t := t) (now := now) (j := j) (x := none) hg.1), (GO_up (t := t) (now := now) (j := j) (x := none) hg.2)⟩, fun B Q hB => (rO_bnan_b xs ys d at_ n i m p b now t co lo  B Q).mpr (rnd3 hA (h _ _ (ak3 hA (h _ _ (pick_f (eqv w) hB)))))⟩
theorem uO_bnar_a {m p b : Int} (xs : Array Value) (d : Int) {ys : List Value} {at_ n i now t co lo : Int} (xa : List P2) (hA : At3 ys n i now (t, annB, co, lo)) {j : Nat} (hj : j ≤ 100) (hg : Sh.All (GO now j) (.ba none (some xa))) :
    ∃ s' : Sh (Option (List P2)), s'.All (GO t (j + 1)) ∧ ∀ (B : List Value → AH → Prop) (Q : AExit → List Value → AH → Prop), B (bV t ys n (IntKind.i64.wrap (i + 1))) (HO xs d m p b s' t) → once 0 Tryz.prog SLk [] (gh (t, annB, co, lo)) 3000 150 [3, 6, 8, 10, 60, 61, 62] [] [2, 3, 6, 8, 10] [] (oneLoop (codeOf Tryz.f4) 11) (bV at_ ys n i) (HO xs d m p b (.ba none (some xa)) now) B Q := by
  obtain ⟨t0, t1, c0, c1, l0, l1⟩ := at3_in hA
  have hn : now ≤ t := hA.le
  rcases vL_or (now := now) (m := m) (p := p) (l := lo) (t := t) (c := co) hj hg.2 c0 c1 with ⟨L2, hG, h⟩ | ⟨w, h⟩
  · exact ⟨(.ba none (some L2)), ⟨(GO_up (t := t) (now := now) (j := j) (x := none) hg.1), hG⟩, fun B Q hB => (rO_bnar_a xs ys d at_ n i m p b now t co lo xa.length (xa.flatMap pcC) B Q).mpr (rnd3 hA (h _ _ (ak3 hA (h _ _ (nP_mk (nnL2 _) (nP_mk (nnL2 _) hB))))))⟩
  · exact ⟨.ba none (some xa), ⟨(GO_up (t := t) (now := now) (j := j) (x := none) hg.1), (GO_up (t := t) (now := now) (j := j) (x := some xa) hg.2)⟩, fun B Q hB => (rO_bnar_a xs ys d at_ n i m p b now t co lo xa.length (xa.flatMap pcC) B Q).mpr (rnd3 hA (h _ _ (ak3 hA (h _ _ (pick_f (eqv w) (nP_mk (nnL2 _) (nP_mk (nnL2 _) hB)))))))⟩
theorem uO_bnar_b {m p b : Int} (xs : Array Value) (d : Int) {ys : List Value} {at_ n i now t co lo : Int} (xa : List P2) (hA : At3 ys n i now (t, bobB, co, lo)) {j : Nat} (hj : j ≤ 100) (hg : Sh.All (GO now j) (.ba none (some xa))) :
    ∃ s' : Sh (Option (List P2)), s'.All (GO t (j + 1)) ∧ ∀ (B : List Value → AH → Prop) (Q : AExit → List Value → AH → Prop), B (bV t ys n (IntKind.i64.wrap (i + 1))) (HO xs d m p b s' t) → once 0 Tryz.prog SLk [] (gh (t, bobB, co, lo)) 3000 150 [3, 6, 8, 10, 60, 61, 62] [] [2, 3, 6, 8, 10] [] (oneLoop (codeOf Tryz.f4) 11) (bV at_ ys n i) (HO xs d m p b (.ba none (some xa)) now) B Q := by
  obtain ⟨t0, t1, c0, c1, l0, l1⟩ := at3_in hA
  have hn : now ≤ t := hA.le
  rcases v0_or m co with h | ⟨w, h⟩
  · by_cases q : lo > 0
    · exact ⟨(.ba (some [(IntKind.i64.wrap (t + lo), co)]) (some xa)), ⟨(GR_one (t := t) j c0 c1), (GO_up (t := t) (now := now) (j := j) (x := some xa) hg.2)⟩, fun B Q hB => (rO_bnar_b xs ys d at_ n i m p b now t co lo xa.length (xa.flatMap pcC) B Q).mpr (rnd3 hA (h _ _ (pick_t (decide_eq_true q) (ak3 hA (h _ _ (pick_t (decide_eq_true q) (nP_mk (nnP1 _) (nP_mk (nnL2 _) (nP_mk (nnP1 _) (nP_mk (nnL2 _) hB))))))))))⟩
    · exact ⟨(.ba none (some xa)), ⟨trivial, (GO_up (t := t) (now := now) (j := j) (x := some xa) hg.2)⟩, fun B Q hB => (rO_bnar_b xs ys d at_ n i m p b now t co lo xa.length (xa.flatMap pcC) B Q).mpr (rnd3 hA (h _ _ (pick_f (decide_eq_false q) (ak3 hA (h _ _ (pick_f (decide_eq_false q) (nP_mk (nnL2 _) (nP_mk (nnL2 _) hB))))))))⟩
  · exact ⟨.ba none (some xa), ⟨(GO_up (t := t) (now := now) (j := j) (x := none) hg.1), (GO_up (t := t) (now := now) (j := j) (x := some xa) hg.2)⟩, fun B Q hB => (rO_bnar_b xs ys d at_ n i m p b now t co lo xa.length (xa.flatMap pcC) B Q).mpr (rnd3 hA (h _ _ (ak3 hA (h _ _ (pick_f (eqv w) (nP_mk (nnL2 _) (nP_mk (nnL2 _) hB)))))))⟩
theorem uO_bran_a {m p b : Int} (xs : Array Value) (d : Int) {ys : List Value} {at_ n i now t co lo : Int} (xb : List P2) (hA : At3 ys n i now (t, annB, co, lo)) {j : Nat} (hj : j ≤ 100) (hg : Sh.All (GO now j) (.ba (some xb) none)) :
    ∃ s' : Sh (Option (List P2)), s'.All (GO t (j + 1)) ∧ ∀ (B : List Value → AH → Prop) (Q : AExit → List Value → AH → Prop), B (bV t ys n (IntKind.i64.wrap (i + 1))) (HO xs d m p b s' t) → once 0 Tryz.prog SLk [] (gh (t, annB, co, lo)) 3000 150 [3, 6, 8, 10, 60, 61, 62] [] [2, 3, 6, 8, 10] [] (oneLoop (codeOf Tryz.f4) 11) (bV at_ ys n i) (HO xs d m p b (.ba (some xb) none) now) B Q := by
  obtain ⟨t0, t1, c0, c1, l0, l1⟩ := at3_in hA
  have hn : now ≤ t := hA.le
  rcases v0_or m co with h | ⟨w, h⟩
  · by_cases q : lo > 0
    · exact ⟨(.ba (some xb) (some [(IntKind.i64.wrap (t + lo), co)])), ⟨(GO_up (t := t) (now := now) (j := j) (x := some xb) hg.1), (GR_one (t := t) j c0 c1)⟩, fun B Q hB => (rO_bran_a xs ys d at_ n i m p b now t co lo xb.length (xb.flatMap pcC) B Q).mpr (rnd3 hA (h _ _ (pick_t (decide_eq_true q) (ak3 hA (h _ _ (pick_t (decide_eq_true q) (nP_mk (nnL2 _) (nP_mk (nnP1 _) (nP_mk (nnL2 _) (nP_mk (nnP1 _) hB))))))))))⟩
    · exact ⟨(.ba (some xb) none), ⟨(GO_up (t := t) (now := now) (j := j) (x := some xb) hg.1), trivial⟩, fun B Q hB => (rO_bran_a xs ys d at_ n i m p b now t co lo xb.length (xb.flatMap pcC) B Q).mpr (rnd3 hA (h _ _ (pick_f (decide_eq_false q) (ak3 hA (h _ _ (pick_f (decide_eq_false q) (nP_mk (nnL2 _) (nP_mk (nnL2 _) hB))))))))⟩
  · exact ⟨.ba (some xb) none, ⟨(GO_up (t := t) (now := now) (j := j) (x := some xb) hg.1), (GO_up (t := t) (now := now) (j := j) (x := none) hg.2)⟩, fun B Q hB => (rO_bran_a xs ys d at_ n i m p b now t co lo xb.length (xb.flatMap pcC) B Q).mpr (rnd3 hA (h _ _ (ak3 hA (h _ _ (pick_f (eqv w) (nP_mk (nnL2 _) (nP_mk (nnL2 _) hB)))))))⟩
theorem uO_bran_b {m p b : Int} (xs : Array Value) (d : Int) {ys : List Value} {at_ n i now t co lo : Int} (xb : List P2) (hA : At3 ys n i now (t, bobB, co, lo)) {j : Nat} (hj : j ≤ 100) (hg : Sh.All (GO now j) (.ba (some xb) none)) :
    ∃ s' : Sh (Option (List P2)), s'.All (GO t (j + 1)) ∧ ∀ (B : List Value → AH → Prop) (Q : AExit → List Value → AH → Prop), B (bV t ys n (IntKind.i64.wrap (i + 1))) (HO xs d m p b s' t) → once 0 Tryz.prog SLk [] (gh (t, bobB, co, lo)) 3000 150 [3, 6, 8, 10, 60, 61, 62] [] [2, 3, 6, 8, 10] [] (oneLoop (codeOf Tryz.f4) 11) (bV at_ ys n i) (HO xs d m p b (.ba (some xb) none) now) B Q := by
  obtain ⟨t0, t1, c0, c1, l0, l1⟩ := at3_in hA
  have hn : now ≤ t := hA.le
  rcases vL_or (now := now) (m := m) (p := p) (l := lo) (t := t) (c := co) hj hg.1 c0 c1 with ⟨L2, hG, h⟩ | ⟨w, h⟩
  · exact ⟨(.ba (some L2) none), ⟨hG, (GO_up (t := t) (now := now) (j := j) (x := none) hg.2)⟩, fun B Q hB => (rO_bran_b xs ys d at_ n i m p b now t co lo xb.length (xb.flatMap pcC) B Q).mpr (rnd3 hA (h _ _ (ak3 hA (h _ _ (nP_mk (nnL2 _) (nP_mk (nnL2 _) hB))))))⟩
  · exact ⟨.ba (some xb) none, ⟨(GO_up (t := t) (now := now) (j := j) (x := some xb) hg.1), (GO_up (t := t) (now := now) (j := j) (x := none) hg.2)⟩, fun B Q hB => (rO_bran_b xs ys d at_ n i m p b now t co lo xb.length (xb.flatMap pcC) B Q).mpr (rnd3 hA (h _ _ (ak3 hA (h _ _ (pick_f (eqv w) (nP_mk (nnL2 _) (nP_mk (nnL2 _) hB)))))))⟩
theorem uO_brar_a {m p b : Int} (xs : Array Value) (d : Int) {ys : List Value} {at_ n i now t co lo : Int} (xb : List P2) (xa : List P2) (hA : At3 ys n i now (t, annB, co, lo)) {j : Nat} (hj : j ≤ 100) (hg : Sh.All (GO now j) (.ba (some xb) (some xa))) :
    ∃ s' : Sh (Option (List P2)), s'.All (GO t (j + 1)) ∧ ∀ (B : List Value → AH → Prop) (Q : AExit → List Value → AH → Prop), B (bV t ys n (IntKind.i64.wrap (i + 1))) (HO xs d m p b s' t) → once 0 Tryz.prog SLk [] (gh (t, annB, co, lo)) 3000 150 [3, 6, 8, 10, 60, 61, 62] [] [2, 3, 6, 8, 10] [] (oneLoop (codeOf Tryz.f4) 11) (bV at_ ys n i) (HO xs d m p b (.ba (some xb) (some xa)) now) B Q := by
  obtain ⟨t0, t1, c0, c1, l0, l1⟩ := at3_in hA
  have hn : now ≤ t := hA.le
  rcases vL_or (now := now) (m := m) (p := p) (l := lo) (t := t) (c := co) hj hg.2 c0 c1 with ⟨L2, hG, h⟩ | ⟨w, h⟩
  · exact ⟨(.ba (some xb) (some L2)), ⟨(GO_up (t := t) (now := now) (j := j) (x := some xb) hg.1), hG⟩, fun B Q hB => (rO_brar_a xs ys d at_ n i m p b now t co lo xb.length (xb.flatMap pcC) xa.length (xa.flatMap pcC) B Q).mpr (rnd3 hA (h _ _ (ak3 hA (h _ _ (nP_mk (nnL2 _) (nP_mk (nnL2 _) (nP_mk (nnL2 _) (nP_mk (nnL2 _) hB))))))))⟩
  · exact ⟨.ba (some xb) (some xa), ⟨(GO_up (t := t) (now := now) (j := j) (x := some xb) hg.1), (GO_up (t := t) (now := now) (j := j) (x := some xa) hg.2)⟩, fun B Q hB => (rO_brar_a xs ys d at_ n i m p b now t co lo xb.length (xb.flatMap pcC) xa.length (xa.flatMap pcC) B Q).mpr (rnd3 hA (h _ _ (ak3 hA (h _ _ (pick_f (eqv w) (nP_mk (nnL2 _) (nP_mk (nnL2 _) (nP_mk (nnL2 _) (nP_mk (nnL2 _) hB)))))))))⟩
theorem uO_brar_b {m p b : Int} (xs : Array Value) (d : Int) {ys : List Value} {at_ n i now t co lo : Int} (xb : List P2) (xa : List P2) (hA : At3 ys n i now (t, bobB, co, lo)) {j : Nat} (hj : j ≤ 100) (hg : Sh.All (GO now j) (.ba (some xb) (some xa))) :
    ∃ s' : Sh (Option (List P2)), s'.All (GO t (j + 1)) ∧ ∀ (B : List Value → AH → Prop) (Q : AExit → List Value → AH → Prop), B (bV t ys n (IntKind.i64.wrap (i + 1))) (HO xs d m p b s' t) → once 0 Tryz.prog SLk [] (gh (t, bobB, co, lo)) 3000 150 [3, 6, 8, 10, 60, 61, 62] [] [2, 3, 6, 8, 10] [] (oneLoop (codeOf Tryz.f4) 11) (bV at_ ys n i) (HO xs d m p b (.ba (some xb) (some xa)) now) B Q := by
  obtain ⟨t0, t1, c0, c1, l0, l1⟩ := at3_in hA
  have hn : now ≤ t := hA.le
  rcases vL_or (now := now) (m := m) (p := p) (l := lo) (t := t) (c := co) hj hg.1 c0 c1 with ⟨L2, hG, h⟩ | ⟨w, h⟩
  · exact ⟨(.ba (some L2) (some xa)), ⟨hG, (GO_up (t := t) (now := now) (j := j) (x := some xa) hg.2)⟩, fun B Q hB => (rO_brar_b xs ys d at_ n i m p b now t co lo xb.length (xb.flatMap pcC) xa.length (xa.flatMap pcC) B Q).mpr (rnd3 hA (h _ _ (ak3 hA (h _ _ (nP_mk (nnL2 _) (nP_mk (nnL2 _) (nP_mk (nnL2 _) (nP_mk (nnL2 _) hB))))))))⟩
  · exact ⟨.ba (some xb) (some xa), ⟨(GO_up (t := t) (now := now) (j := j) (x := some xb) hg.1), (GO_up (t := t) (now := now) (j := j) (x := some xa) hg.2)⟩, fun B Q hB => (rO_brar_b xs ys d at_ n i m p b now t co lo xb.length (xb.flatMap pcC) xa.length (xa.flatMap pcC) B Q).mpr (rnd3 hA (h _ _ (ak3 hA (h _ _ (pick_f (eqv w) (nP_mk (nnL2 _) (nP_mk (nnL2 _) (nP_mk (nnL2 _) (nP_mk (nnL2 _) hB)))))))))⟩
theorem rdO {m p b : Int} (xs : Array Value) (d : Int) : RoundE (HO xs d m p b) GO := by
  intro ys at_ n i now a s j hA hw hj hg
  obtain ⟨t, w, co, lo⟩ := a
  rcases hw with rfl | rfl
  · match s, hg with
    | .e, hg => exact uO_e_a  xs d  hA hj hg
    | .a none, hg => exact uO_an_a  xs d  hA hj hg
    | .a (some xa), hg => exact uO_ar_a  xs d xa hA hj hg
    | .b none, hg => exact uO_bn_a  xs d  hA hj hg
    | .b (some xb), hg => exact uO_br_a  xs d xb hA hj hg
    | .ab none none, hg => exact uO_anbn_a  xs d  hA hj hg
    | .ab none (some xb), hg => exact uO_anbr_a  xs d xb hA hj hg
    | .ab (some xa) none, hg => exact uO_arbn_a  xs d xa hA hj hg
    | .ab (some xa) (some xb), hg => exact uO_arbr_a  xs d xa xb hA hj hg
    | .ba none none, hg => exact uO_bnan_a  xs d  hA hj hg
    | .ba none (some xa), hg => exact uO_bnar_a  xs d xa hA hj hg
    | .ba (some xb) none, hg => exact uO_bran_a  xs d xb hA hj hg
    | .ba (some xb) (some xa), hg => exact uO_brar_a  xs d xb xa hA hj hg
  · match s, hg with
    | .e, hg => exact uO_e_b  xs d  hA hj hg
    | .a none, hg => exact uO_an_b  xs d  hA hj hg
    | .a (some xa), hg => exact uO_ar_b  xs d xa hA hj hg
    | .b none, hg => exact uO_bn_b  xs d  hA hj hg
    | .b (some xb), hg => exact uO_br_b  xs d xb hA hj hg
    | .ab none none, hg => exact uO_anbn_b  xs d  hA hj hg
    | .ab none (some xb), hg => exact uO_anbr_b  xs d xb hA hj hg
    | .ab (some xa) none, hg => exact uO_arbn_b  xs d xa hA hj hg
    | .ab (some xa) (some xb), hg => exact uO_arbr_b  xs d xa xb hA hj hg
    | .ba none none, hg => exact uO_bnan_b  xs d  hA hj hg
    | .ba none (some xa), hg => exact uO_bnar_b  xs d xa hA hj hg
    | .ba (some xb) none, hg => exact uO_bran_b  xs d xb hA hj hg
    | .ba (some xb) (some xa), hg => exact uO_brar_b  xs d xb xa hA hj hg
theorem enO {m p b : Int} (xs : Array Value) (d : Int) : EndE (HO xs d m p b) := by
  intro ys at_ n i now s hni B Q hQ
  match s, hQ with
  | .e, hQ => exact (rO_e_a xs ys d at_ n i m p b now 0 0 0  B Q).mpr (pick_f (decide_eq_false (by omega)) hQ)
  | .a none, hQ => exact (rO_an_a xs ys d at_ n i m p b now 0 0 0  B Q).mpr (pick_f (decide_eq_false (by omega)) hQ)
  | .a (some xa), hQ => exact (rO_ar_a xs ys d at_ n i m p b now 0 0 0 xa.length (xa.flatMap pcC) B Q).mpr (pick_f (decide_eq_false (by omega)) (nP_mk (nnL2 _) (nP_mk (nnL2 _) hQ)))
  | .b none, hQ => exact (rO_bn_a xs ys d at_ n i m p b now 0 0 0  B Q).mpr (pick_f (decide_eq_false (by omega)) hQ)
  | .b (some xb), hQ => exact (rO_br_a xs ys d at_ n i m p b now 0 0 0 xb.length (xb.flatMap pcC) B Q).mpr (pick_f (decide_eq_false (by omega)) (nP_mk (nnL2 _) (nP_mk (nnL2 _) hQ)))
  | .ab none none, hQ => exact (rO_anbn_a xs ys d at_ n i m p b now 0 0 0  B Q).mpr (pick_f (decide_eq_false (by omega)) hQ)
  | .ab none (some xb), hQ => exact (rO_anbr_a xs ys d at_ n i m p b now 0 0 0 xb.length (xb.flatMap pcC) B Q).mpr (pick_f (decide_eq_false (by omega)) (nP_mk (nnL2 _) (nP_mk (nnL2 _) hQ)))
  | .ab (some xa) none, hQ => exact (rO_arbn_a xs ys d at_ n i m p b now 0 0 0 xa.length (xa.flatMap pcC) B Q).mpr (pick_f (decide_eq_false (by omega)) (nP_mk (nnL2 _) (nP_mk (nnL2 _) hQ)))
  | .ab (some xa) (some xb), hQ => exact (rO_arbr_a xs ys d at_ n i m p b now 0 0 0 xa.length (xa.flatMap pcC) xb.length (xb.flatMap pcC) B Q).mpr (pick_f (decide_eq_false (by omega)) (nP_mk (nnL2 _) (nP_mk (nnL2 _) (nP_mk (nnL2 _) (nP_mk (nnL2 _) hQ)))))
  | .ba none none, hQ => exact (rO_bnan_a xs ys d at_ n i m p b now 0 0 0  B Q).mpr (pick_f (decide_eq_false (by omega)) hQ)
  | .ba none (some xa), hQ => exact (rO_bnar_a xs ys d at_ n i m p b now 0 0 0 xa.length (xa.flatMap pcC) B Q).mpr (pick_f (decide_eq_false (by omega)) (nP_mk (nnL2 _) (nP_mk (nnL2 _) hQ)))
  | .ba (some xb) none, hQ => exact (rO_bran_a xs ys d at_ n i m p b now 0 0 0 xb.length (xb.flatMap pcC) B Q).mpr (pick_f (decide_eq_false (by omega)) (nP_mk (nnL2 _) (nP_mk (nnL2 _) hQ)))
  | .ba (some xb) (some xa), hQ => exact (rO_brar_a xs ys d at_ n i m p b now 0 0 0 xb.length (xb.flatMap pcC) xa.length (xa.flatMap pcC) B Q).mpr (pick_f (decide_eq_false (by omega)) (nP_mk (nnL2 _) (nP_mk (nnL2 _) (nP_mk (nnL2 _) (nP_mk (nnL2 _) hQ)))))
end Go.Proofs.YtbigicdojndnjaaGreatDoor
