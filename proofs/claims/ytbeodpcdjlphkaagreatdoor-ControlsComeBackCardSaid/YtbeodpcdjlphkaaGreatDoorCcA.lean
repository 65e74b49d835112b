/-
  What headers say about caches: strings that are joined and taken apart.
-/
import Derived.Test.YtbeodpcdjlphkaaGreatDoorBase
import Derived.Test.YtbeodpcdjlphkaaGreatDoorCcS
import Derived.Below
import Derived.Lib.Join
import Derived.Lib.Bytealg
import Derived.Lib.TrimByte
/-
  Contracts of the library's about strings, in every heap (Ev9).
-/
namespace Go.Ev
open Go.RowKit

theorem ext_below {P : Program} {N : Emb} {h : AH} {w w' : World} (hr : HRel P N h w) (hb : Below w.heap.size w w') : Ext P N h w N h w' :=
  ext_grow hr hb.size (fun b h => hb.block b h) hb.tape hb.os hb.output
/-- A value that holds no address. -/
def flatV : Value → Bool
  | .string _ | .int .. | .bool _ => true
  | _ => false
theorem flatV_rel {N : Emb} {v v' : Value} (h : flatV v = true) (hv : VRel N v v') : v' = v := by
  cases v with
  | string s => exact hv.inv_string
  | int k n => exact hv.inv_int
  | bool b => cases hv; rfl
  | _ => cases h
theorem flatV_self {N : Emb} {v : Value} (h : flatV v = true) : VRel N v v := by
  cases v with
  | string s => exact .string s
  | int k n => exact .int k n
  | bool b => exact .bool b
  | _ => cases h
theorem flat_args {N : Emb} {args : List Value} {args' : Array Value} (hf : args.all flatV = true) (h : CRel N ⟨args⟩ args') : args' = ⟨args⟩ := by
  apply Array.ext
  · exact h.1.symm
  · intro i h1 h2
    have h3 : i < args.length := by simpa using h2
    have := h.2 i args[i] args'[i] (by simp [h3]) (by simp [h1])
    have := flatV_rel (List.all_eq_true.1 hf _ (List.getElem_mem h3)) this
    simpa using this
/-- A function of strings and numbers, as the library tells it. -/
theorem flat_call {P : Program} {f : FuncId} {args : List Value} {v : Value} {H : AH} (hf : args.all flatV = true) (hv : flatV v = true) (h : ∀ w, Calls P f ⟨args⟩ w fun e w' => e = .returned v ∧ Below w.heap.size w w') : CallOK P f ⟨args⟩ H v H := by
  intro N w args' ha hr _
  rw [flat_args hf ha]
  refine (h w).mono ?_
  rintro e w' ⟨rfl, hb⟩
  exact ⟨N, v, rfl, flatV_self hv, ext_below hr hb⟩
theorem below_drew (w : World) : Below w.heap.size w w.drew := ⟨rfl, rfl, rfl, Nat.le_refl _, fun _ _ => rfl⟩

/-- strings.Join, as the library tells it: of no element; of some. -/
def JoinSaid (P : Program) (f : FuncId) : Prop := ∀ (bk o c : Nat) (xs : List ByteArray) (sep : ByteArray) (w : World),
  (∀ (j : Nat) x, xs[j]? = some x → w.cell? ⟨bk, o + j, none⟩ = some (.string x)) → bk < w.heap.size → xs.length ≤ 140737488355328 → xs.length ≤ c → (Lib.join (xs.map (·.data.toList)) sep.data.toList).length ≤ 140737488355328 →
    Calls P f #[.slice (some ⟨bk, o, none⟩) xs.length c, .string sep] w fun e w' => e = .returned (.string ⟨(Lib.join (xs.map (·.data.toList)) sep.data.toList).toArray⟩) ∧ Below w.heap.size w w'
def JoinNone (P : Program) (f : FuncId) : Prop := ∀ (a : Option Addr) (c : Nat) (sep : ByteArray) (w : World),
    Calls P f #[.slice a 0 c, .string sep] w fun e w' => e = .returned (.string ⟨#[]⟩) ∧ w' = w
theorem two_args {N : Emb} {u v : Value} {args' : Array Value} (h : CRel N ⟨[u, v]⟩ args') : ∃ u0 v0, args' = #[u0, v0] ∧ VRel N u u0 ∧ VRel N v v0 := by
  have hA : args'.size = 2 := by simpa using h.1.symm
  refine ⟨args'[0], args'[1], ?_, h.2 0 u args'[0] (by simp) (by simp), h.2 1 v args'[1] (by simp) (by simp)⟩
  apply Array.ext
  · simpa using hA
  · intro i h1 h2
    match i, h1, h2 with
    | 0, _, _ => rfl
    | 1, _, _ => rfl
    | i + 2, h1, _ => omega
theorem join_call {P : Program} {f : FuncId} (h : JoinSaid P f) (h0 : JoinNone P f) {xs : List ByteArray} {sep : ByteArray} {H : AH} (hl : xs.length ≤ 1000000) (hb : (Lib.join (xs.map (·.data.toList)) sep.data.toList).length ≤ 140737488355328) :
    CallOK P f ⟨[fz ⟨xs.map Value.string⟩, .string sep]⟩ H (.string ⟨(Lib.join (xs.map (·.data.toList)) sep.data.toList).toArray⟩) H := by
  intro N w args' ha hr _
  obtain ⟨u0, v0, rfl, hu, hv⟩ := two_args ha
  rw [hv.inv_string]
  rcases VRel.inv_fz hu with ⟨q, a, c, rfl⟩ | ⟨s, b, o, c, cs, hF, hsz, hc, hs, hx, rfl⟩
  · have : xs = [] := by
      cases xs with
      | nil => rfl
      | cons x l => simp at q
    subst this
    refine (h0 a c sep w).mono ?_
    rintro e w' ⟨rfl, rfl⟩
    exact ⟨N, _, rfl, .string _, ext_below hr (Below.refl _ _)⟩
  · obtain ⟨⟨t, fr, hw⟩, _⟩ := hr.froz b cs hF
    have hn : (Array.mk (xs.map Value.string)).size = xs.length := by simp
    rw [hn] at hsz hc ⊢
    refine (h b o c xs sep w ?_ (lt_of_some hw) (by omega) hc hb).mono ?_
    · intro j x hj
      have hj2 : j < xs.length := (List.getElem?_eq_some_iff.1 hj).1
      have hjx : (Array.mk (xs.map Value.string))[j]? = some (.string x) := by
        have : (xs.map Value.string)[j]? = some (.string x) := by rw [List.getElem?_map, hj]; rfl
        simpa using this
      have hs1 := hs j _ hjx
      have hs1 : s = 1 := hs1.symm
      subst hs1
      have hlt : o + j * 1 + 0 < cs.size := by omega
      have h1 := (hx j 0 (.string x) (.string x) cs[o + j * 1 + 0] hjx rfl (Array.getElem?_eq_getElem hlt)).inv_string
      have h2 : cs[o + j * 1 + 0]? = some (.string x) := by rw [Array.getElem?_eq_getElem hlt, h1]
      rw [cell_eq hw]
      have h3 : o + j * 1 + 0 = o + j := by omega
      rw [h3] at h2
      exact h2
    · rintro e w' ⟨rfl, hb2⟩
      exact ⟨N, _, rfl, .string _, ext_below hr hb2⟩
end Go.Ev

namespace Go.Ev
open Go.RowKit
/-- The row of a slice gets the mark 1. -/
noncomputable def markG (s : Nat) : LS := fun t h K => match t.get s with
  | .slice (some ⟨b, 0, none⟩) _ _ => match h.get b with
    | some (.cells c ty (0, 0)) => K .normal t (h.set b (.cells c ty (1, 1)))
    | _ => False
  | _ => False
theorem markG_ok (p : Nat) (P : Program) (m s : Nat) : GSpec p P m (markG s) := by
  intro t τ h K hr hs
  unfold markG at hs
  split at hs
  · split at hs
    · rename_i c ty hg
      exact ⟨t, τ, _, Weak.mark 0 1 hg, hr, hs⟩
    · exact hs.elim
  · exact hs.elim
noncomputable def thenLS (ls g : LS) : LS := fun t h K => ls t h fun e t' h' => match e with
  | .exit i => g t' h' fun _ t2 h2 => K (.exit i) t2 h2
  | e => K e t' h'
theorem thenLS_ok {p : Nat} {P : Program} {m : Nat} {b : Code} {ls g : LS} (hl : LSpec p P m b ls) (hg : GSpec p P m g) : LSpec p P m b (thenLS ls g) := by
  intro t τ h K hr hs
  refine Tri.post ((hl t τ h _ hr hs).mono ?_)
  rintro e τ' h' ⟨t', hr', hq⟩
  cases e with
  | exit i =>
    obtain ⟨t2, τ2, h2, hW, hr2, hq2⟩ := hg t' τ' h' _ hr' hq
    exact ⟨τ2, h2, hW, t2, hr2, hq2⟩
  | normal => exact ⟨τ', h', Weak.refl _ _ _ _, t', hr', hq⟩
  | ret => exact ⟨τ', h', Weak.refl _ _ _ _, t', hr', hq⟩
end Go.Ev
/-! Plain laws for ControlsComeBack (core Lean only). -/
namespace CtrlLaw
/-- What headers say: flags and numbers (-1: untold). -/
structure Ct where
  b0 : Bool
  b1 : Bool
  b2 : Bool
  b3 : Bool
  b4 : Bool
  b5 : Bool
  n0 : Int
  n1 : Int
  n2 : Int
  n3 : Int
  n4 : Int
  n5 : Int
inductive Part where
  | flag (i : Nat)
  | num (i : Nat) (v : Nat)
deriving DecidableEq, Repr
def flagS : Nat → List UInt8
  | 0 => [110, 111, 45, 115, 116, 111, 114, 101]
  | 1 => [110, 111, 45, 99, 97, 99, 104, 101]
  | 2 => [112, 114, 105, 118, 97, 116, 101]
  | 3 => [112, 117, 98, 108, 105, 99]
  | 4 => [109, 117, 115, 116, 45, 114, 101, 118, 97, 108, 105, 100, 97, 116, 101]
  | _ => [111, 110, 108, 121, 45, 105, 102, 45, 99, 97, 99, 104, 101, 100]
def numS : Nat → List UInt8
  | 0 => [109, 97, 120, 45, 97, 103, 101]
  | 1 => [115, 45, 109, 97, 120, 97, 103, 101]
  | 2 => [115, 116, 97, 108, 101, 45, 119, 104, 105, 108, 101, 45, 114, 101, 118, 97, 108, 105, 100, 97, 116, 101]
  | 3 => [115, 116, 97, 108, 101, 45, 105, 102, 45, 101, 114, 114, 111, 114]
  | 4 => [109, 97, 120, 45, 115, 116, 97, 108, 101]
  | _ => [109, 105, 110, 45, 102, 114, 101, 115, 104]
/-- A number of at most two digits. -/
def decS (v : Nat) : List UInt8 := if v < 10 then [UInt8.ofNat (48 + v)] else [UInt8.ofNat (48 + v / 10), UInt8.ofNat (48 + v % 10)]
def strP : Part → List UInt8
  | .flag i => flagS i
  | .num i v => numS i ++ 61 :: decS v
def most : Nat → Nat
  | 0 => 51
  | 1 => 51
  | _ => 4
def allQ : List Part := (List.range 6).map Part.flag ++ (List.range 6).flatMap fun i => (List.range (most i)).map (Part.num i)
def setN (x : Int) (v : Nat) : Int := if x = -1 ∨ (v : Int) < x then (v : Int) else x
def updQ : Part → Ct → Ct
  | .flag 0, c => { c with b0 := true }
  | .flag 1, c => { c with b1 := true }
  | .flag 2, c => { c with b2 := true }
  | .flag 3, c => { c with b3 := true }
  | .flag 4, c => { c with b4 := true }
  | .flag _, c => { c with b5 := true }
  | .num 0 v, c => { c with n0 := setN c.n0 v }
  | .num 1 v, c => { c with n1 := setN c.n1 v }
  | .num 2 v, c => { c with n2 := setN c.n2 v }
  | .num 3 v, c => { c with n3 := setN c.n3 v }
  | .num 4 v, c => { c with n4 := setN c.n4 v }
  | .num _ v, c => { c with n5 := setN c.n5 v }
def fq (i : Nat) (b : Bool) : List Part := bif b then [.flag i] else []
def nq (i : Nat) (n : Int) : List Part := if n = -1 then [] else [.num i n.toNat]
def partsQ (c : Ct) : List Part := fq 0 c.b0 ++ (fq 1 c.b1 ++ (fq 2 c.b2 ++ (fq 3 c.b3 ++ (fq 4 c.b4 ++ (fq 5 c.b5 ++
  (nq 0 c.n0 ++ (nq 1 c.n1 ++ (nq 2 c.n2 ++ (nq 3 c.n3 ++ (nq 4 c.n4 ++ nq 5 c.n5))))))))))
def c0 : Ct := ⟨false, false, false, false, false, false, -1, -1, -1, -1, -1, -1⟩
def runQ (l : List Part) (a : Ct) : Ct := l.foldl (fun a q => updQ q a) a
theorem runQ_app (l r : List Part) (a : Ct) : runQ (l ++ r) a = runQ r (runQ l a) := List.foldl_append
theorem setN_new {n : Int} (h : -1 ≤ n) (hn : n ≠ -1) : setN (-1) n.toNat = n := by
  unfold setN
  rw [if_pos (Or.inl rfl)]
  omega
theorem comes_back (c : Ct) (h0 : -1 ≤ c.n0) (h1 : -1 ≤ c.n1) (h2 : -1 ≤ c.n2) (h3 : -1 ≤ c.n3) (h4 : -1 ≤ c.n4) (h5 : -1 ≤ c.n5) : runQ (partsQ c) c0 = c := by
  obtain ⟨b0, b1, b2, b3, b4, b5, n0, n1, n2, n3, n4, n5⟩ := c
  simp only at h0 h1 h2 h3 h4 h5
  unfold partsQ c0
  simp only [runQ_app]
  have e0 : runQ (fq 0 b0) ⟨false, false, false, false, false, false, -1, -1, -1, -1, -1, -1⟩ = ⟨b0, false, false, false, false, false, -1, -1, -1, -1, -1, -1⟩ := by cases b0 <;> rfl
  have e1 : runQ (fq 1 b1) ⟨b0, false, false, false, false, false, -1, -1, -1, -1, -1, -1⟩ = ⟨b0, b1, false, false, false, false, -1, -1, -1, -1, -1, -1⟩ := by cases b1 <;> rfl
  have e2 : runQ (fq 2 b2) ⟨b0, b1, false, false, false, false, -1, -1, -1, -1, -1, -1⟩ = ⟨b0, b1, b2, false, false, false, -1, -1, -1, -1, -1, -1⟩ := by cases b2 <;> rfl
  have e3 : runQ (fq 3 b3) ⟨b0, b1, b2, false, false, false, -1, -1, -1, -1, -1, -1⟩ = ⟨b0, b1, b2, b3, false, false, -1, -1, -1, -1, -1, -1⟩ := by cases b3 <;> rfl
  have e4 : runQ (fq 4 b4) ⟨b0, b1, b2, b3, false, false, -1, -1, -1, -1, -1, -1⟩ = ⟨b0, b1, b2, b3, b4, false, -1, -1, -1, -1, -1, -1⟩ := by cases b4 <;> rfl
  have e5 : runQ (fq 5 b5) ⟨b0, b1, b2, b3, b4, false, -1, -1, -1, -1, -1, -1⟩ = ⟨b0, b1, b2, b3, b4, b5, -1, -1, -1, -1, -1, -1⟩ := by cases b5 <;> rfl
  have f : ∀ (i : Nat) (n : Int) (a b : Ct), (n = -1 → a = b) → (n ≠ -1 → updQ (.num i n.toNat) a = b) → runQ (nq i n) a = b := by
    intro i n a b g1 g2
    unfold nq
    by_cases q : n = -1
    · rw [if_pos q]; exact g1 q
    · rw [if_neg q]; exact g2 q
  rw [e0, e1, e2, e3, e4, e5,
    f 0 n0 _ ⟨b0, b1, b2, b3, b4, b5, n0, -1, -1, -1, -1, -1⟩ (fun q => by rw [q]) (fun q => by simp only [updQ, setN_new h0 q]),
    f 1 n1 _ ⟨b0, b1, b2, b3, b4, b5, n0, n1, -1, -1, -1, -1⟩ (fun q => by rw [q]) (fun q => by simp only [updQ, setN_new h1 q]),
    f 2 n2 _ ⟨b0, b1, b2, b3, b4, b5, n0, n1, n2, -1, -1, -1⟩ (fun q => by rw [q]) (fun q => by simp only [updQ, setN_new h2 q]),
    f 3 n3 _ ⟨b0, b1, b2, b3, b4, b5, n0, n1, n2, n3, -1, -1⟩ (fun q => by rw [q]) (fun q => by simp only [updQ, setN_new h3 q]),
    f 4 n4 _ ⟨b0, b1, b2, b3, b4, b5, n0, n1, n2, n3, n4, -1⟩ (fun q => by rw [q]) (fun q => by simp only [updQ, setN_new h4 q]),
    f 5 n5 _ ⟨b0, b1, b2, b3, b4, b5, n0, n1, n2, n3, n4, n5⟩ (fun q => by rw [q]) (fun q => by simp only [updQ, setN_new h5 q])]
theorem find_all : ∀ q ∈ allQ, allQ.find? (fun p => strP p == strP q) = some q := by decide +kernel
/-- Bytes of parts: no blank, no comma. -/
def good (b : UInt8) : Bool := decide (33 ≤ b.toNat) && decide (b.toNat ≤ 126) && b != 44
theorem all_good : ∀ q ∈ allQ, (strP q).all good = true ∧ strP q ≠ [] ∧ (strP q).length ≤ 30 := by decide +kernel
theorem mem_fq (i : Nat) (hi : i < 6) (b : Bool) : ∀ q ∈ fq i b, q ∈ allQ := by
  intro q hq
  cases b with
  | false => cases hq
  | true =>
    rw [List.mem_singleton.1 hq]
    exact List.mem_append.2 (Or.inl (List.mem_map.2 ⟨i, List.mem_range.2 hi, rfl⟩))
theorem mem_nq (i : Nat) (hi : i < 6) (n : Int) (h0 : -1 ≤ n) (h1 : n < (most i : Int)) : ∀ q ∈ nq i n, q ∈ allQ := by
  intro q hq
  unfold nq at hq
  split at hq
  · cases hq
  · rw [List.mem_singleton.1 hq]
    exact List.mem_append.2 (Or.inr (List.mem_flatMap.2 ⟨i, List.mem_range.2 hi, List.mem_map.2 ⟨n.toNat, List.mem_range.2 (by omega), rfl⟩⟩))
structure CtOk (c : Ct) : Prop where
  l0 : -1 ≤ c.n0
  l1 : -1 ≤ c.n1
  l2 : -1 ≤ c.n2
  l3 : -1 ≤ c.n3
  l4 : -1 ≤ c.n4
  l5 : -1 ≤ c.n5
  u0 : c.n0 < 51
  u1 : c.n1 < 51
  u2 : c.n2 < 4
  u3 : c.n3 < 4
  u4 : c.n4 < 4
  u5 : c.n5 < 4
theorem parts_all {c : Ct} (h : CtOk c) : ∀ q ∈ partsQ c, q ∈ allQ := by
  intro q hq
  unfold partsQ at hq
  simp only [List.mem_append] at hq
  rcases hq with q0 | q0 | q0 | q0 | q0 | q0 | q0 | q0 | q0 | q0 | q0 | q0
  · exact mem_fq 0 (by decide) _ q q0
  · exact mem_fq 1 (by decide) _ q q0
  · exact mem_fq 2 (by decide) _ q q0
  · exact mem_fq 3 (by decide) _ q q0
  · exact mem_fq 4 (by decide) _ q q0
  · exact mem_fq 5 (by decide) _ q q0
  · exact mem_nq 0 (by decide) _ h.l0 h.u0 q q0
  · exact mem_nq 1 (by decide) _ h.l1 h.u1 q q0
  · exact mem_nq 2 (by decide) _ h.l2 h.u2 q q0
  · exact mem_nq 3 (by decide) _ h.l3 h.u3 q q0
  · exact mem_nq 4 (by decide) _ h.l4 h.u4 q q0
  · exact mem_nq 5 (by decide) _ h.l5 h.u5 q q0
theorem fq_len (i : Nat) (b : Bool) : (fq i b).length ≤ 1 := by cases b <;> simp [fq]
theorem nq_len (i : Nat) (n : Int) : (nq i n).length ≤ 1 := by unfold nq; split <;> simp
theorem parts_len (c : Ct) : (partsQ c).length ≤ 12 := by
  unfold partsQ
  simp only [List.length_append]
  have := fq_len 0 c.b0; have := fq_len 1 c.b1; have := fq_len 2 c.b2; have := fq_len 3 c.b3; have := fq_len 4 c.b4; have := fq_len 5 c.b5
  have := nq_len 0 c.n0; have := nq_len 1 c.n1; have := nq_len 2 c.n2; have := nq_len 3 c.n3; have := nq_len 4 c.n4; have := nq_len 5 c.n5
  omega
end CtrlLaw
/-! Plain laws for ControlsComeBack: joined parts, taken apart again. -/
namespace CtrlLaw
open Go.Lib
theorem idx_none : ∀ {q : List UInt8}, (44 : UInt8) ∉ q → indexByte q 44 = -1
  | [], _ => rfl
  | b :: l, h => by
    have h1 : (b == 44) = false := beq_eq_false_iff_ne.2 fun e => h (by rw [e]; simp)
    have h2 := idx_none (q := l) fun e => h (List.mem_cons_of_mem _ e)
    unfold indexByte
    rw [h1, h2]
    rfl
theorem idx_at : ∀ {q : List UInt8} (s : List UInt8), (44 : UInt8) ∉ q → indexByte (q ++ 44 :: s) 44 = (q.length : Int)
  | [], s, _ => rfl
  | b :: l, s, h => by
    have h1 : (b == 44) = false := beq_eq_false_iff_ne.2 fun e => h (by rw [e]; simp)
    have h2 := idx_at (q := l) s fun e => h (List.mem_cons_of_mem _ e)
    show indexByte (b :: (l ++ 44 :: s)) 44 = _
    unfold indexByte
    rw [h1, h2]
    have h3 : ((l.length : Int) == -1) = false := beq_eq_false_iff_ne.2 (by omega)
    rw [h3]
    simp
/-- A part and those behind it. -/
def body (q : List UInt8) (r : List (List UInt8)) : List UInt8 := q ++ joinTail [44, 32] r
theorem body_nil (q : List UInt8) : body q [] = q := by simp [body, joinTail]
theorem body_cons (q p : List UInt8) (r : List (List UInt8)) : body q (p :: r) = q ++ 44 :: body (32 :: p) r := by
  simp [body, joinTail]
theorem count_body : ∀ (r : List (List UInt8)) (q : List UInt8), (44 : UInt8) ∉ q → (∀ p ∈ r, (44 : UInt8) ∉ p) → countByte (body q r) 44 = r.length
  | [], q, h, _ => by rw [body_nil]; exact List.count_eq_zero.2 h
  | p :: r, q, h, h2 => by
    have ih := count_body r (32 :: p) (fun e => by
      rcases List.mem_cons.1 e with e | e
      · cases e
      · exact h2 p (by simp) e) (fun x hx => h2 x (by simp [hx]))
    rw [body_cons]
    unfold countByte at ih ⊢
    rw [List.count_append, List.count_cons_self, ih, List.count_eq_zero.2 h]
    simp
theorem good_44 {p : List UInt8} (h : p.all good = true) : (44 : UInt8) ∉ p := fun e => by
  have := List.all_eq_true.1 h _ e
  cases this
theorem good_ne {p : List UInt8} (h : p.all good = true) : ∀ b ∈ p, (b == 32) = false := fun b hb => by
  have := List.all_eq_true.1 h b hb
  cases q : b == 32 with
  | false => rfl
  | true => rw [eq_of_beq q] at this; cases this
theorem drop_stop : ∀ {l : List UInt8}, (∀ b ∈ l.head?, (b == 32) = false) → l.dropWhile (· == 32) = l
  | [], _ => rfl
  | b :: l, h => by
    have : (b == 32) = false := h b (by simp)
    rw [List.dropWhile_cons, this]
    rfl
theorem trim_ends {l : List UInt8} (h1 : ∀ b ∈ l.head?, (b == 32) = false) (h2 : ∀ b ∈ l.getLast?, (b == 32) = false) : trimB l 32 = l := by
  unfold trimB trimRightB trimLeftB
  rw [drop_stop (l := l.reverse) (by rw [List.head?_reverse]; exact h2), List.reverse_reverse, drop_stop h1]
theorem trim_good {p : List UInt8} (h : p.all good = true) : trimB p 32 = p :=
  trim_ends (fun b hb => good_ne h b (List.mem_of_head? hb)) (fun b hb => good_ne h b (List.mem_of_getLast? hb))
theorem trim_blank {p : List UInt8} (h : p.all good = true) (hn : p ≠ []) : trimB (32 :: p) 32 = p := by
  unfold trimB
  have : trimRightB (32 :: p) 32 = 32 :: p := by
    unfold trimRightB
    rw [drop_stop (l := (32 :: p).reverse), List.reverse_reverse]
    intro b hb
    rw [List.head?_reverse] at hb
    have hl : (32 :: p).getLast? = p.getLast? := by cases p with | nil => exact absurd rfl hn | cons x l => rfl
    rw [hl] at hb
    exact good_ne h b (List.mem_of_getLast? hb)
  rw [this]
  show (32 :: p).dropWhile (· == 32) = p
  rw [List.dropWhile_cons]
  exact drop_stop fun b hb => good_ne h b (List.mem_of_head? hb)
/-- Bytes of texts: from a blank on. -/
def inkB (b : UInt8) : Bool := decide (32 ≤ b.toNat) && decide (b.toNat ≤ 126)
theorem good_ink {p : List UInt8} (h : p.all good = true) : p.all inkB = true := by
  rw [List.all_eq_true] at h ⊢
  intro b hb
  have := h b hb
  unfold good at this
  unfold inkB
  simp only [Bool.and_eq_true, decide_eq_true_eq] at this ⊢
  omega
theorem tail_ink : ∀ {r : List (List UInt8)}, (∀ p ∈ r, p.all good = true) → (joinTail [44, 32] r).all inkB = true
  | [], _ => rfl
  | p :: r, h => by
    have ih := tail_ink (r := r) fun x hx => h x (by simp [hx])
    have e : joinTail [44, 32] (p :: r) = 44 :: 32 :: (p ++ joinTail [44, 32] r) := by simp [joinTail]
    rw [e, List.all_cons, List.all_cons, List.all_append, ih, good_ink (h p (by simp))]
    rfl
theorem tail_last : ∀ {r : List (List UInt8)} {q : List UInt8}, (∀ p ∈ r, p.all good = true ∧ p ≠ []) → q.all good = true → q ≠ [] → ∀ b ∈ (q ++ joinTail [44, 32] r).getLast?, (b == 32) = false
  | [], q, _, hq, _, b, hb => by
    have e : q ++ joinTail [44, 32] [] = q := by simp [joinTail]
    rw [e] at hb
    exact good_ne hq b (List.mem_of_getLast? hb)
  | p :: r, q, h, hq, hn, b, hb => by
    have ih := tail_last (r := r) (q := p) (fun x hx => h x (by simp [hx])) (h p (by simp)).1 (h p (by simp)).2
    have e : q ++ joinTail [44, 32] (p :: r) = (q ++ [44, 32]) ++ (p ++ joinTail [44, 32] r) := by simp [joinTail]
    have hne : p ++ joinTail [44, 32] r ≠ [] := fun q => (h p (by simp)).2 (List.append_eq_nil_iff.1 q).1
    rw [e, List.getLast?_append] at hb
    cases hh : (p ++ joinTail [44, 32] r).getLast? with
    | none => exact absurd (List.getLast?_eq_none_iff.1 hh) hne
    | some y =>
      rw [hh] at hb
      exact ih b (by rw [hh]; exact hb)
theorem join_ink : ∀ {ps : List (List UInt8)}, (∀ p ∈ ps, p.all good = true) → (join ps [44, 32]).all inkB = true
  | [], _ => rfl
  | p :: r, h => by rw [join_cons, List.all_append, good_ink (h p (by simp)), tail_ink fun x hx => h x (by simp [hx])]; rfl
theorem join_trim : ∀ {ps : List (List UInt8)}, (∀ p ∈ ps, p.all good = true ∧ p ≠ []) → trimB (join ps [44, 32]) 32 = join ps [44, 32]
  | [], _ => rfl
  | p :: r, h => by
    rw [join_cons]
    refine trim_ends (fun b hb => ?_) (tail_last (fun x hx => h x (by simp [hx])) (h p (by simp)).1 (h p (by simp)).2)
    obtain ⟨h1, h2⟩ := h p (by simp)
    cases p with
    | nil => exact absurd rfl h2
    | cons x l => exact good_ne h1 b (by simp at hb; simp [hb])
theorem tail_len : ∀ {r : List (List UInt8)}, (∀ p ∈ r, p.length ≤ 30) → (joinTail [44, 32] r).length ≤ r.length * 32
  | [], _ => Nat.le_refl _
  | p :: r, h => by
    have ih := tail_len (r := r) fun x hx => h x (by simp [hx])
    have := h p (by simp)
    have e : joinTail [44, 32] (p :: r) = 44 :: 32 :: (p ++ joinTail [44, 32] r) := by simp [joinTail]
    rw [e]
    simp only [List.length_cons, List.length_append]
    omega
theorem join_len : ∀ {ps : List (List UInt8)}, (∀ p ∈ ps, p.length ≤ 30) → (join ps [44, 32]).length ≤ ps.length * 32
  | [], _ => Nat.le_refl _
  | p :: r, h => by
    have ih := tail_len (r := r) fun x hx => h x (by simp [hx])
    have := h p (by simp)
    rw [join_cons]
    simp only [List.length_cons, List.length_append]
    omega
end CtrlLaw

namespace Go.Proofs.YtbeodpcdjlphkaaGreatDoor
open Go.Ev Go.RowKit CtrlLaw

/-- A string of bytes. -/
def bl (l : List UInt8) : ByteArray := ⟨l.toArray⟩
def strV (l : List UInt8) : Value := .string (bl l)
theorem bl_list (l : List UInt8) : (bl l).data.toList = l := by simp [bl]
theorem bl_self (s : ByteArray) : bl s.data.toList = s := by
  obtain ⟨⟨l⟩⟩ := s
  rfl
theorem bl_size (l : List UInt8) : (bl l).size = l.length := by
  show (bl l).data.size = _
  simp [bl]
theorem bl_cut (l : List UInt8) (a b : Nat) (h : b ≤ l.length) : (bl l).extract a b = bl ((l.take b).drop a) := by
  rw [← bl_self ((bl l).extract a b)]
  congr 1
  have : ((bl l).extract a b).data.toList = ((bl l).data.extract a b).toList := by
    rw [ByteArray.data_extract]
  rw [this]
  simp [bl, List.extract_eq_take_drop, List.drop_take]
def isB (c : ByteArray) (b : Nat) : Bool := beqN (natsOf c) [b]
theorem isB_eq {c : ByteArray} {b : UInt8} (h : isB c b.toNat = true) : c = ⟨#[b]⟩ := natsOf_inj (beqN_eq h)
noncomputable def spIt (f : FuncId) (args : Array Value) (h : AH) : Option (Bool × Value × AH) :=
  cond (Nat.beq f 40) (match args with
    | ⟨[.int .i64 n]⟩ => some (decide (0 ≤ n) && decide (n < 100), .string (bl (Lib.decDigits n.toNat)), h)
    | _ => none) none
theorem spIt_ok : SpOK spIt := by
  intro f args h v h' hs
  unfold spIt at hs
  obtain ⟨hf, hs2⟩ := cond_some hs
  clear hs
  have := Nat.eq_of_beq_eq_true hf
  subst this
  split at hs2
  · injection hs2 with hs
    injection hs with hb hs
    injection hs with hv hh
    subst hv hh
    rename_i n
    simp only [Bool.and_eq_true, decide_eq_true_eq] at hb
    refine ⟨flat_call (args := [.int .i64 n]) rfl rfl fun w => ?_, Nat.le_refl _⟩
    have := Tryz.strconv_Itoa_small n.toNat (by omega) w
    rw [show ((n.toNat : Nat) : Int) = n by omega] at this
    exact this.mono fun e w' ⟨h1, h2⟩ => ⟨h1, h2 ▸ Below.refl _ _⟩
  · cases hs2
noncomputable def spIx (f : FuncId) (args : Array Value) (h : AH) : Option (Bool × Value × AH) :=
  cond (Nat.beq f 103) (match args with
    | ⟨[.string s, .string c]⟩ => some (isB c 44, .int .i64 (Lib.indexByte s.data.toList 44), h)
    | _ => none) none
theorem spIx_ok : SpOK spIx := by
  intro f args h v h' hs
  unfold spIx at hs
  obtain ⟨hf, hs2⟩ := cond_some hs
  clear hs
  have := Nat.eq_of_beq_eq_true hf
  subst this
  split at hs2
  · injection hs2 with hs
    injection hs with hb hs
    injection hs with hv hh
    subst hv hh
    rename_i s c
    have := isB_eq (b := 44) hb
    subst this
    exact ⟨flat_call (args := [.string s, .string ⟨#[44]⟩]) rfl rfl fun w => (Tryz.strings_Index_one s 44 w).mono fun e w' ⟨h1, h2⟩ => ⟨h1, h2 ▸ Below.refl _ _⟩, Nat.le_refl _⟩
  · cases hs2
noncomputable def spCn (f : FuncId) (args : Array Value) (h : AH) : Option (Bool × Value × AH) :=
  cond (Nat.beq f 102) (match args with
    | ⟨[.string s, .string c]⟩ => some (isB c 44, .int .i64 (Lib.countByte s.data.toList 44), h)
    | _ => none) none
theorem spCn_ok : SpOK spCn := by
  intro f args h v h' hs
  unfold spCn at hs
  obtain ⟨hf, hs2⟩ := cond_some hs
  clear hs
  have := Nat.eq_of_beq_eq_true hf
  subst this
  split at hs2
  · injection hs2 with hs
    injection hs with hb hs
    injection hs with hv hh
    subst hv hh
    rename_i s c
    have := isB_eq (b := 44) hb
    subst this
    exact ⟨flat_call (args := [.string s, .string ⟨#[44]⟩]) rfl rfl fun w => (Tryz.strings_Count_one s 44 w).mono fun e w' ⟨h1, h2⟩ => ⟨h1, h2 ▸ Below.refl _ _⟩, Nat.le_refl _⟩
  · cases hs2
noncomputable def spTm (f : FuncId) (args : Array Value) (h : AH) : Option (Bool × Value × AH) :=
  cond (Nat.beq f 88) (match args with
    | ⟨[.string s, .string c]⟩ => some (Nat.ble s.size 100000 && isB c 32, .string (bl (Lib.trimB s.data.toList 32)), h)
    | _ => none) none
theorem spTm_ok : SpOK spTm := by
  intro f args h v h' hs
  unfold spTm at hs
  obtain ⟨hf, hs2⟩ := cond_some hs
  clear hs
  have := Nat.eq_of_beq_eq_true hf
  subst this
  split at hs2
  · injection hs2 with hs
    injection hs with hb hs
    injection hs with hv hh
    subst hv hh
    rename_i s c
    rw [Bool.and_eq_true] at hb
    have := isB_eq (b := 32) hb.2
    subst this
    have hs := Nat.le_of_ble_eq_true hb.1
    exact ⟨flat_call (args := [.string s, .string ⟨#[32]⟩]) rfl rfl fun w => (Tryz.strings_Trim_one s 32 (by decide) w (by omega)).mono fun e w' ⟨h1, h2⟩ => ⟨h1, h2.elim (fun q => q ▸ Below.refl _ _) (fun q => q ▸ below_drew _)⟩, Nat.le_refl _⟩
  · cases hs2
/-- Rows of strings that can be joined. -/
def strsOf (xs : List Value) : List ByteArray := xs.map toStr
def okJ (xs : List Value) (sep : ByteArray) : Bool := xs.all isStr && Nat.ble xs.length 1000 && Nat.ble (Lib.join ((strsOf xs).map (·.data.toList)) sep.data.toList).length 100000
theorem strs_map : ∀ {xs : List Value}, xs.all isStr = true → xs = (strsOf xs).map Value.string
  | [], _ => rfl
  | x :: l, h => by
    rw [List.all_cons, Bool.and_eq_true] at h
    have ih := strs_map h.2
    have hx : x = .string (toStr x) := by
      cases x with
      | string s => rfl
      | _ => cases h.1
    show x :: l = .string (toStr x) :: (strsOf l).map Value.string
    rw [← ih, ← hx]
noncomputable def spJn (f : FuncId) (args : Array Value) (h : AH) : Option (Bool × Value × AH) :=
  cond (Nat.beq f 41) (match args with
    | ⟨[.func (.yield 0) ⟨xs⟩ ⟨[]⟩, .string sep]⟩ => some (okJ xs sep, .string (bl (Lib.join ((strsOf xs).map (·.data.toList)) sep.data.toList)), h)
    | _ => none) none
theorem spJn_ok : SpOK spJn := by
  intro f args h v h' hs
  unfold spJn at hs
  obtain ⟨hf, hs2⟩ := cond_some hs
  clear hs
  have := Nat.eq_of_beq_eq_true hf
  subst this
  split at hs2
  · injection hs2 with hs
    injection hs with hb hs
    injection hs with hv hh
    subst hv hh
    rename_i xs sep
    simp only [okJ, Bool.and_eq_true, Nat.ble_eq] at hb
    refine ⟨?_, Nat.le_refl _⟩
    have := join_call (P := Tryz.prog) (f := 41) (fun bk o c xs sep w => Tryz.strings_Join bk o c xs sep w) (fun a c sep w => Tryz.strings_Join_none a c sep w) (xs := strsOf xs) (sep := sep) (H := h) (by have : (strsOf xs).length = xs.length := List.length_map _; omega) (by omega)
    rw [← strs_map hb.1.1] at this
    exact this
  · cases hs2

/-! 'isRange', 'IsField' -/
def SB0 : SC := ⟨idn, fun _ _ _ => none, true, true⟩
theorem SB0_ok : SB0.cfg.OK Tryz.prog := none_ok.cfg
theorem irr (s : ByteArray) (lo hi n i : Int) (B : List Value → AH → Prop) (Q : AExit → List Value → AH → Prop) :
    once 0 Tryz.prog SB0 [] noHooks 600 26 [0, 1, 2, 9, 10] [] [6] [] (oneLoop (codeOf Tryz.f73) 2) [.string s, .int .u8 lo, .int .u8 hi, .int .i64 n, .int .i64 i] h0 B Q =
      bif decide (i < n) then bif decide (0 ≤ i) && decide (i < (s.size : Int)) then bif decide (((s.data.toList.getD i.toNat 0).toNat : Int) < lo) then Q .ret [.bool false] h0 else
        bif decide (0 ≤ i) && decide (i < (s.size : Int)) then bif decide (((s.data.toList.getD i.toNat 0).toNat : Int) > hi) then Q .ret [.bool false] h0 else
          B [.string s, .int .u8 lo, .int .u8 hi, .int .i64 n, .int .i64 (IntKind.i64.wrap (i + 1))] h0
      else False else False else Q (.exit 0) [anyV] h0 := by kernel_rfl
theorem wrap1 {i : Nat} (h : i ≤ 1000000) : IntKind.i64.wrap ((i : Int) + 1) = ((i + 1 : Nat) : Int) := by rw [wrap_id _ (by omega) (by omega)]; rfl
theorem ir_loop {l : List UInt8} (hl : l.length ≤ 100000) (hk : l.all inkB = true) (K : AExit → List Value → AH → Prop) (hK : K (.exit 0) [anyV] h0) :
    ∀ r i, i + r = l.length → iter 0 Tryz.prog SB0 [] noHooks 600 26 [0, 1, 2, 9, 10] [] [6] [] (oneLoop (codeOf Tryz.f73) 2) (r + 1) [.string (bl l), .int .u8 32, .int .u8 126, .int .i64 (l.length : Int), .int .i64 (i : Int)] h0 K := by
  intro r
  induction r with
  | zero =>
    intro i h1
    exact (irr _ _ _ _ _ _ K).mpr (pick_f (by simp; omega) hK)
  | succ r ih =>
    intro i h1
    have hi : i < l.length := by omega
    have hb := List.all_eq_true.1 hk l[i] (List.getElem_mem hi)
    unfold inkB at hb
    simp only [Bool.and_eq_true, decide_eq_true_eq] at hb
    have hg : (bl l).data.toList.getD (i : Int).toNat 0 = l[i] := by
      rw [bl_list]
      show l.getD i 0 = _
      simp [List.getD, hi]
    have hs := bl_size l
    have hin : (decide (0 ≤ (i : Int)) && decide ((i : Int) < ((bl l).size : Int))) = true := by simp; omega
    refine (irr _ _ _ _ _ _ K).mpr (pick_t (decide_eq_true (by omega)) (need_mk hin ?_))
    rw [hg]
    refine pick_f (decide_eq_false (by omega)) (need_mk hin (pick_f (decide_eq_false (by omega)) ?_))
    rw [wrap1 (by omega)]
    exact ih (i + 1) (by omega)
theorem oneIR : (loopAt (codeOf Tryz.f73) 2).length = 1 := by kernel_rfl
theorem someIR : Tryz.f73.body.isSome = true := by kernel_rfl
theorem irf (s : ByteArray) (C : List Value → AH → Prop) (Q : Value → Prop) :
    tfn Tryz.prog SB0 [] (hook1 2 (hookLS 0 26 [0, 1, 2, 9, 10] [] [6] (fun vals h K => C vals h ∧ K (.exit 0) [anyV] h0))) 600 [] Tryz.f73 [.string s, .int .u8 32, .int .u8 126] h0 (fun v _ => Q v) =
      (C [.string s, .int .u8 32, .int .u8 126, .int .i64 (s.size : Int), .int .i64 0] h0 ∧ Q (.bool true)) := by kernel_rfl
theorem ir_fn {l : List UInt8} (hl : l.length ≤ 100000) (hk : l.all inkB = true) : FnOK 0 Tryz.prog 73 ⟨[.string (bl l), .int .u8 32, .int .u8 126]⟩ h0 (fun v _ => v = .bool true) := by
  have hsp : LSpec 0 Tryz.prog 26 (oneLoop (codeOf Tryz.f73) 2) (hookLS 0 26 [0, 1, 2, 9, 10] [] [6] (fun vals h K => (vals = [.string (bl l), .int .u8 32, .int .u8 126, .int .i64 (l.length : Int), .int .i64 0] ∧ h = h0) ∧ K (.exit 0) [anyV] h0)) := by
    refine hook_ok (G := []) (L := noHooks) (f := 600) (sameX := []) SB0_ok mixed (by decide) (loops_none _ _ _ _) ?_
    rintro vals h K ⟨⟨rfl, rfl⟩, hK⟩
    exact ⟨_, ir_loop hl hk K hK l.length 0 (by omega)⟩
  refine FnOK.ttree SB0_ok mixed Tryz.func73 someIR (loops_one oneIR hsp) (irf (bl l) _ (fun v => v = .bool true)) ?_
  exact ⟨⟨by rw [bl_size], rfl⟩, rfl⟩
noncomputable def spIr (f : FuncId) (args : Array Value) (h : AH) : Option (Bool × Value × AH) :=
  cond (Nat.beq f 73) (match args with
    | ⟨[.string s, .int .u8 lo, .int .u8 hi]⟩ => some (decide (lo = 32) && decide (hi = 126) && Nat.ble s.data.toList.length 100000 && s.data.toList.all inkB, .bool true, h)
    | _ => none) none
theorem spIr_ok : SpOK spIr := by
  intro f args h v h' hs
  unfold spIr at hs
  obtain ⟨hf, hs2⟩ := cond_some hs
  clear hs
  have := Nat.eq_of_beq_eq_true hf
  subst this
  split at hs2
  · injection hs2 with hs
    injection hs with hb hs
    injection hs with hv hh
    subst hv hh
    rename_i s lo hi
    simp only [Bool.and_eq_true, decide_eq_true_eq, Nat.ble_eq] at hb
    obtain ⟨⟨⟨rfl, rfl⟩, h1⟩, h2⟩ := hb
    have := ir_fn h1 h2
    rw [bl_self] at this
    exact ⟨FnOK.pure this rfl rfl h, Nat.le_refl _⟩
  · cases hs2
/-- A text of parts. -/
def txB (ps : List Part) : ByteArray := bl (Lib.join (ps.map strP) [44, 32])
open Classical in
noncomputable def okS (s : ByteArray) : Bool := @decide (∃ ps : List Part, ps.length ≤ 12 ∧ (∀ q ∈ ps, q ∈ allQ) ∧ s = txB ps) (Classical.propDecidable _)
theorem okS_iff {s : ByteArray} : okS s = true ↔ ∃ ps : List Part, ps.length ≤ 12 ∧ (∀ q ∈ ps, q ∈ allQ) ∧ s = txB ps := by unfold okS; exact @decide_eq_true_iff _ (Classical.propDecidable _)
theorem parts_good {ps : List Part} (h : ∀ q ∈ ps, q ∈ allQ) : ∀ p ∈ ps.map strP, p.all good = true ∧ p ≠ [] ∧ p.length ≤ 30 := by
  intro p hp
  obtain ⟨q, hq, rfl⟩ := List.mem_map.1 hp
  exact all_good q (h q hq)
theorem tx_len {ps : List Part} (h1 : ps.length ≤ 12) (h : ∀ q ∈ ps, q ∈ allQ) : (Lib.join (ps.map strP) [44, 32]).length ≤ 400 := by
  have := join_len (ps := ps.map strP) fun p hp => (parts_good h p hp).2.2
  rw [List.length_map] at this
  omega
noncomputable def SB1 : SC := ⟨idn, spOr spIr spTm, true, true⟩
theorem SB1_ok : SB1.cfg.OK Tryz.prog := (spIr_ok.or spTm_ok).cfg
theorem someIF : Tryz.f67.body.isSome = true := by kernel_rfl
theorem iff (s : ByteArray) (Q : Value → Prop) : ffn Tryz.prog SB1 [] 600 [] Tryz.f67 [.string s] h0 (fun v _ => Q v) =
    bif decide ((s.size : Int) ≤ 2000) then bif Nat.ble s.data.toList.length 100000 && s.data.toList.all inkB then bif Nat.ble s.size 100000 && true then Q (.bool ((bl (Lib.trimB s.data.toList 32)).toList == s.toList)) else False else False else Q (.bool false) := by kernel_rfl
theorem if_fn {ps : List Part} (h1 : ps.length ≤ 12) (h : ∀ q ∈ ps, q ∈ allQ) : FnOK 0 Tryz.prog 67 ⟨[.string (txB ps)]⟩ h0 (fun v _ => v = .bool true) := by
  have hl := tx_len h1 h
  refine FnOK.ftree SB1_ok mixed Tryz.func67 someIF (iff (txB ps) (fun v => v = .bool true)) ?_
  have hs : (txB ps).size = (Lib.join (ps.map strP) [44, 32]).length := bl_size _
  have hd : (txB ps).data.toList = Lib.join (ps.map strP) [44, 32] := bl_list _
  rw [hd, hs, join_trim (fun p hp => ⟨(parts_good h p hp).1, (parts_good h p hp).2.1⟩)]
  refine pick_t (decide_eq_true (show ((Lib.join (ps.map strP) [44, 32]).length : Int) ≤ 2000 by omega)) (need_mk ?_ (need_mk ?_ ?_))
  · rw [Nat.ble_eq_true_of_le (by omega), join_ink (fun p hp => (parts_good h p hp).1)]; rfl
  · rw [Nat.ble_eq_true_of_le (by omega)]; rfl
  · show Value.bool ((txB ps).toList == (txB ps).toList) = _
    rw [beq_self_eq_true]
noncomputable def spIf (f : FuncId) (args : Array Value) (h : AH) : Option (Bool × Value × AH) :=
  cond (Nat.beq f 67) (match args with
    | ⟨[.string s]⟩ => some (okS s, .bool true, h)
    | _ => none) none
theorem spIf_ok : SpOK spIf := by
  intro f args h v h' hs
  unfold spIf at hs
  obtain ⟨hf, hs2⟩ := cond_some hs
  clear hs
  have := Nat.eq_of_beq_eq_true hf
  subst this
  split at hs2
  · injection hs2 with hs
    injection hs with hb hs
    injection hs with hv hh
    subst hv hh
    obtain ⟨ps, h1, h2, rfl⟩ := okS_iff.1 hb
    exact ⟨FnOK.pure (if_fn h1 h2) rfl rfl h, Nat.le_refl _⟩
  · cases hs2
end Go.Proofs.YtbeodpcdjlphkaaGreatDoor
