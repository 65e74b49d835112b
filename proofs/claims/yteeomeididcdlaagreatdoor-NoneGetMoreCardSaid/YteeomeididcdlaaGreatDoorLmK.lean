/-
  Limits: what is counted.
-/
import Derived.Test.YteeomeididcdlaaGreatDoorLmJ
namespace Go.Proofs.YteeomeididcdlaaGreatDoor
open Go.Ev Go.RowKit LimLaw

def inV (lo mo n0 i n len k : Int) (xs bs vs : List Value) : List Value := [.int .i64 lo, fz ⟨xs⟩, fz ⟨vs⟩, .int .i64 mo, fz ⟨xs⟩, .int .i64 n0, .int .i64 i, .int .i64 i, .pointer (some ⟨0, 0, none⟩), .int .i64 n, fz ⟨bs⟩, .int .i64 len, .int .i64 k]
def inH (y : List Value) : AH := ⟨1, 1, [(0, .cells ⟨y⟩ 40 (0, 0))]⟩
def inX (lo mo n0 i n : Int) (xs vs : List Value) : List Value := [.int .i64 lo, fz ⟨xs⟩, fz ⟨vs⟩, .int .i64 mo, fz ⟨xs⟩, .int .i64 n0, .int .i64 i, .int .i64 n]
def ouV (lo mo n0 i : Int) (xs vs : List Value) : List Value := [.int .i64 lo, fz ⟨xs⟩, fz ⟨vs⟩, .int .i64 mo, fz ⟨xs⟩, .int .i64 n0, .int .i64 i]
def rdV (cs : List Value) : Vd := (Ev.toBool (cs.getD 0 undef), toStr (cs.getD 1 undef), toInt (cs.getD 2 undef))
def atV (vs : List Value) (i : Int) : Vd := rdV ((Array.mk vs).toList.getD i.toNat undef).cells.toList
theorem inr (lo mo n0 i n len k t : Int) (xs bs vs : List Value) (B : List Value → AH → Prop) (Q : AExit → List Value → AH → Prop) :
    once 0 Tryz.prog SP0 [] noHooks 900 112 [5, 6, 8, 10, 72, 73, 74, 12, 13, 14, 81, 82, 83] [] [5, 6, 8, 10, 72, 73, 74, 14] [] (oneLoop (codeOf Tryz.f4) 21) (inV lo mo n0 i n len k xs bs vs) (inH (aC t)) B Q =
      bif decide (k < len) then bif decide (0 ≤ k) && decide (k < ((Array.mk bs).size : Int)) && true then elA bs k = akV (atA bs k) ∧
        bif decide (0 ≤ IntKind.i64.wrap (i + k)) && decide (IntKind.i64.wrap (i + k) < ((Array.mk vs).size : Int)) && true then elA vs (IntKind.i64.wrap (i + k)) = vdV (atV vs (IntKind.i64.wrap (i + k))) ∧
          bif (atV vs (IntKind.i64.wrap (i + k))).1 then bif (bif true then decide ((atA bs k).1 < IntKind.i64.wrap (t + lo)) else false) then B (inV lo mo n0 i (IntKind.i64.wrap (n + 1)) len (IntKind.i64.wrap (k + 1)) xs bs vs) (inH (aC t))
            else B (inV lo mo n0 i n len (IntKind.i64.wrap (k + 1)) xs bs vs) (inH (aC t))
          else B (inV lo mo n0 i n len (IntKind.i64.wrap (k + 1)) xs bs vs) (inH (aC t))
        else False else False
      else Q (.exit 4) (inX lo mo n0 i n xs vs) h0 := by kernel_rfl
theorem getV {R : List Vd} {i : Nat} (hi : i < R.length) : elA (R.map vdV) (i : Int) = vdV R[i] ∧ atV (R.map vdV) (i : Int) = R[i] := by
  have h1 : (Array.mk (R.map vdV)).toList.getD ((i : Int).toNat) (Value.tuple { toList := [] }) = vdV R[i] := by
    show (R.map vdV).getD i _ = _
    simp [List.getD, hi]
  have h2 : (Array.mk (R.map vdV)).toList.getD ((i : Int).toNat) undef = vdV R[i] := by
    show (R.map vdV).getD i _ = _
    simp [List.getD, hi]
  exact ⟨h1, by unfold atV; rw [h2]; rfl⟩
theorem getT {L : List Int} {i : Nat} (hi : i < L.length) : elA (L.map aV) (i : Int) = akV (atA (L.map aV) (i : Int)) ∧ (atA (L.map aV) (i : Int)).1 = L[i] ∧ akC (atA (L.map aV) (i : Int)) = aC L[i] := by
  rw [aV_ak]
  have hi2 : i < (L.map toA).length := by rw [List.length_map]; exact hi
  obtain ⟨g1, g2⟩ := getA hi2
  have e : (L.map toA)[i] = toA L[i] := List.getElem_map _
  rw [g2]
  exact ⟨g1, by rw [e]; rfl, by rw [e]; rfl⟩
theorem in_loop {L : List Int} {R : List Vd} (hR : R.length = L.length) (hl : L.length ≤ 100) {i : Nat} {lo mo n0 t : Int} (ht : IntKind.i64.wrap (t + lo) = t + lo) (K : AExit → List Value → AH → Prop) :
    ∀ (r k : Nat) (n : Int), i + k + r = L.length → 0 ≤ n → n ≤ k → K (.exit 4) (inX lo mo n0 (i : Int) (n + cnt (t + lo) (L.drop (i + k)) ((R.drop (i + k)).map (·.1))) (L.map aV) (R.map vdV)) h0 →
      iter 0 Tryz.prog SP0 [] noHooks 900 112 [5, 6, 8, 10, 72, 73, 74, 12, 13, 14, 81, 82, 83] [] [5, 6, 8, 10, 72, 73, 74, 14] [] (oneLoop (codeOf Tryz.f4) 21) (r + 1) (inV lo mo n0 (i : Int) n ((L.drop i).length : Int) (k : Int) (L.map aV) ((L.drop i).map aV) (R.map vdV)) (inH (aC t)) K := by
  intro r
  induction r with
  | zero =>
    intro k n h1 h2 h3 hK
    rw [List.drop_eq_nil_of_le (show L.length ≤ i + k by omega)] at hK
    have e : n + cnt (t + lo) [] ((R.drop (i + k)).map (·.1)) = n := by cases (R.drop (i + k)).map (·.1) <;> (show n + 0 = n; omega)
    rw [e] at hK
    exact (inr _ _ _ _ _ _ _ _ _ _ _ _ K).mpr (pick_f (by rw [List.length_drop]; simp; omega) hK)
  | succ r ih =>
    intro k n h1 h2 h3 hK
    have hik : i + k < L.length := by omega
    have hk : k < (L.drop i).length := by rw [List.length_drop]; omega
    have hkR : i + k < R.length := by omega
    have hsz : (Array.mk ((L.drop i).map aV)).size = (L.drop i).length := by simp
    have hszv : (Array.mk (R.map vdV)).size = R.length := by simp
    have hw : IntKind.i64.wrap ((i : Int) + (k : Int)) = ((i + k : Nat) : Int) := by rw [wrap_id _ (by omega) (by omega)]; omega
    obtain ⟨g1, g2, _⟩ := getT hk
    obtain ⟨v1, v2⟩ := getV hkR
    have hLk : (L.drop i)[k] = L[i + k] := List.getElem_drop ..
    rw [List.drop_eq_getElem_cons hik, List.drop_eq_getElem_cons hkR, List.map_cons, cnt] at hK
    refine (inr _ _ _ _ _ _ _ _ _ _ _ _ K).mpr (pick_t (decide_eq_true (by omega)) (need_mk (by rw [hsz, decide_eq_true (show (0 : Int) ≤ (k : Int) by omega), decide_eq_true (show (k : Int) < ((L.drop i).length : Int) by omega)]; rfl) ⟨g1, ?_⟩))
    rw [hw]
    refine need_mk (by rw [hszv, decide_eq_true (show (0 : Int) ≤ ((i + k : Nat) : Int) by omega), decide_eq_true (show ((i + k : Nat) : Int) < (R.length : Int) by omega)]; rfl) ⟨by rw [v2]; exact v1, ?_⟩
    rw [v2, g2, hLk, ht, wrap1 (by omega)]
    have next : ∀ n2 : Int, 0 ≤ n2 → n2 ≤ ((k + 1 : Nat) : Int) → n2 + cnt (t + lo) (L.drop (i + k + 1)) ((R.drop (i + k + 1)).map (·.1)) = n + ((if R[i + k].1 = true ∧ L[i + k] < t + lo then 1 else 0) + cnt (t + lo) (L.drop (i + k + 1)) ((R.drop (i + k + 1)).map (·.1))) →
        iter 0 Tryz.prog SP0 [] noHooks 900 112 [5, 6, 8, 10, 72, 73, 74, 12, 13, 14, 81, 82, 83] [] [5, 6, 8, 10, 72, 73, 74, 14] [] (oneLoop (codeOf Tryz.f4) 21) (r + 1) (inV lo mo n0 (i : Int) n2 ((L.drop i).length : Int) ((k + 1 : Nat) : Int) (L.map aV) ((L.drop i).map aV) (R.map vdV)) (inH (aC t)) K := by
      intro n2 q0 q1 q2
      refine ih (k + 1) n2 (by omega) q0 q1 ?_
      rw [show i + (k + 1) = i + k + 1 from rfl, q2]
      exact hK
    cases q : (R[i + k]).1 with
    | false => exact pick_f rfl (next n h2 (by omega) (by rw [q, if_neg (by simp)]; omega))
    | true =>
      refine pick_t rfl ?_
      by_cases q2 : L[i + k] < t + lo
      · refine pick_t (decide_eq_true q2) ?_
        rw [wrap_id (n + 1) (by omega) (by omega)]
        exact next (n + 1) (by omega) (by omega) (by rw [q, if_pos ⟨rfl, q2⟩]; omega)
      · exact pick_f (decide_eq_false q2) (next n h2 (by omega) (by rw [q, if_neg (fun z => q2 z.2)]; omega))
def bsI (xs : List Value) (i : Int) : List Value := List.take (((Array.mk xs).size : Int).toNat - i.toNat) (List.drop i.toNat xs)
theorem our (lo mo n0 i nn : Int) (xs vs : List Value) (C : List Value → AH → Prop) (B : List Value → AH → Prop) (Q : AExit → List Value → AH → Prop) :
    once 0 Tryz.prog SP0 [] (hook1 21 (hookLS 0 112 [5, 6, 8, 10, 72, 73, 74, 12, 13, 14, 81, 82, 83] [] [5, 6, 8, 10, 72, 73, 74, 14] (fun vals h K => C vals h ∧ K (.exit 4) (inX lo mo n0 i nn xs vs) h0))) 900 112 [5, 6, 8, 10, 72, 73, 74] [] [2] [] (oneLoop (codeOf Tryz.f4) 17) (ouV lo mo n0 i xs vs) h0 B Q =
      bif decide (i < n0) then bif decide (0 ≤ i) && decide (i < ((Array.mk xs).size : Int)) && true then elA xs i = akV (atA xs i) ∧
        bif decide (0 ≤ i) && decide (i ≤ ((Array.mk xs).size : Int)) && decide (((Array.mk xs).size : Int) ≤ ((Array.mk xs).size : Int)) && (decide (i = ((Array.mk xs).size : Int)) || Nat.beq ((Array.mk xs).toList.getD i.toNat undef).cells.size 4) then
          C (inV lo mo n0 i 0 ((Array.mk (bsI xs i)).size : Int) 0 xs (bsI xs i) vs) (inH (akC (atA xs i))) ∧ bif decide (nn > mo) then Q .ret [.bool false] h0 else B (ouV lo mo n0 (IntKind.i64.wrap (i + 1)) xs vs) h0
        else False else False
      else Q (.exit 2) [anyV] h0 := by kernel_rfl
theorem one21 : (loopAt (oneLoop (codeOf Tryz.f4) 17) 21).length = 1 := by kernel_rfl
theorem fair_drop {lo mo : Int} : ∀ {L : List Int} {B : List Bool} {i : Nat} (_ : fair lo mo L B) (_ : B.length = L.length) (h : i < L.length), cnt (L[i] + lo) (L.drop i) (B.drop i) ≤ mo
  | t :: L, b :: B, 0, h, _, _ => h.1
  | t :: L, b :: B, i + 1, h, hb, hi => fair_drop (L := L) (B := B) (i := i) h.2 (by simpa using hb) (by simpa using hi)
theorem ou_loop {L : List Int} {R : List Vd} (hR : R.length = L.length) (hl : L.length ≤ 100) (hu : up_ 0 L) (ht : ∀ x ∈ L, x ≤ 1000) {lo mo : Int} (hlo : okLo lo) (hf : fair lo mo L (R.map (·.1))) (K : AExit → List Value → AH → Prop) (hK : K (.exit 2) [anyV] h0) :
    ∀ (r i : Nat), i + r = L.length → iterE 0 Tryz.prog 112 [5, 6, 8, 10, 72, 73, 74] [] [2] [] (oneLoop (codeOf Tryz.f4) 17) (r + 1) (ouV lo mo (L.length : Int) (i : Int) (L.map aV) (R.map vdV)) h0 K := by
  have hsz : (Array.mk (L.map aV)).size = L.length := by simp
  have hlo2 := okLo_in hlo
  intro r
  induction r with
  | zero =>
    intro i h1
    have hkk : LoopsOK 0 Tryz.prog 112 noHooks (oneLoop (codeOf Tryz.f4) 17) := loops_none _ _ _ _
    refine ⟨SP0, [], (hook1 21 (hookLS 0 112 [5, 6, 8, 10, 72, 73, 74, 12, 13, 14, 81, 82, 83] [] [5, 6, 8, 10, 72, 73, 74, 14] (fun vals h K => (fun _ _ => False : List Value → AH → Prop) vals h ∧ K (.exit 4) (inX lo mo (L.length : Int) (i : Int) 0 (L.map aV) (R.map vdV)) h0))), 900, SP0_ok, loops_one one21 (hook_ok (G := []) (L := noHooks) (f := 900) (sameX := []) SP0_ok mixed (by decide) (loops_none _ _ _ _) fun vals h K q => q.1.elim), ?_⟩
    exact (our lo mo (L.length : Int) (i : Int) 0 (L.map aV) (R.map vdV) (fun _ _ => False) _ K).mpr (pick_f (by simp; omega) hK)
  | succ r ih =>
    intro i h1
    have hi : i < L.length := by omega
    obtain ⟨g1, g2, g3⟩ := getT hi
    have hp := (up_drop hu hi).1
    have htop := ht _ (List.getElem_mem hi)
    have hbs : bsI (L.map aV) (i : Int) = (L.drop i).map aV := by
      unfold bsI
      rw [hsz, List.map_drop]
      show List.take (L.length - i) (List.drop i (L.map aV)) = _
      exact List.take_of_length_le (by rw [List.length_drop, List.length_map]; omega)
    have hbz : (Array.mk ((L.drop i).map aV)).size = (L.drop i).length := by simp
    have hwt : IntKind.i64.wrap (L[i] + lo) = L[i] + lo := wrap_id _ (by omega) (by omega)
    have hcnt := fair_drop hf (by rw [List.length_map, hR]) hi
    refine ⟨SP0, [], (hook1 21 (hookLS 0 112 [5, 6, 8, 10, 72, 73, 74, 12, 13, 14, 81, 82, 83] [] [5, 6, 8, 10, 72, 73, 74, 14] (fun vals h K => (vals = inV lo mo (L.length : Int) (i : Int) 0 ((L.drop i).length : Int) 0 (L.map aV) ((L.drop i).map aV) (R.map vdV) ∧ h = inH (aC L[i])) ∧ K (.exit 4) (inX lo mo (L.length : Int) (i : Int) (cnt (L[i] + lo) (L.drop i) ((R.map (·.1)).drop i)) (L.map aV) (R.map vdV)) h0))), 900, SP0_ok, loops_one one21 (hook_ok (G := []) (L := noHooks) (f := 900) (sameX := []) SP0_ok mixed (by decide) (loops_none _ _ _ _) ?_), ?_⟩
    · rintro vals h K2 ⟨⟨rfl, rfl⟩, hK2⟩
      refine ⟨_, in_loop hR hl (i := i) hwt K2 (L.length - i) 0 0 (by omega) (Int.le_refl _) (Int.le_refl _) ?_⟩
      rw [Nat.add_zero, Int.zero_add, List.map_drop]
      exact hK2
    · refine (our lo mo (L.length : Int) (i : Int) _ (L.map aV) (R.map vdV) _ _ K).mpr (pick_t (decide_eq_true (by omega)) (need_mk (by rw [hsz, decide_eq_true (show (0 : Int) ≤ (i : Int) by omega), decide_eq_true (show (i : Int) < (L.length : Int) by omega)]; rfl) ⟨g1, need_mk ?_ ⟨⟨?_, ?_⟩, pick_f (decide_eq_false (by omega)) ?_⟩⟩))
      · have e : (Array.mk (L.map aV)).toList.getD ((i : Int).toNat) undef = akV (atA (L.map aV) (i : Int)) := g1
        rw [hsz, e, decide_eq_true (show (0 : Int) ≤ (i : Int) by omega), decide_eq_true (show (i : Int) ≤ (L.length : Int) by omega), decide_eq_true (Int.le_refl _)]
        simp [akV, akC, Value.cells]
      · rw [hbs, hbz]
      · rw [g3]
      · rw [wrap1 (by omega)]
        exact ih (i + 1) (by omega)
end Go.Proofs.YteeomeididcdlaaGreatDoor
