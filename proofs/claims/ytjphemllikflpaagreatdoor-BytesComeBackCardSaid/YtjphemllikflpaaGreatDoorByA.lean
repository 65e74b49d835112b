/-
  Paths: strings that are joined and taken apart.
-/
import Derived.Test.YtjphemllikflpaaGreatDoorBase
import Derived.Test.YtjphemllikflpaaGreatDoorByS
import Derived.Below
import Derived.Lib.Bytealg
import Derived.Lib.Join
import Derived.Lib.ItoaNum
import Derived.Lib.Atoi
import Derived.Lib.IndexAny
import Derived.Lib.Case
import Derived.Lib.Index
namespace Go.Ev
open Go.RowKit
/-- The row of a slice gets the mark 1. -/
noncomputable def markG (s : Nat) : LS := fun t h K => match t.get s with
  | .slice (some ⟨b, 0, none⟩) _ _ => match h.get b with
    | some (.cells c ty (0, 0)) => K .normal t (h.set b (.cells c ty (1, 1)))
    | _ => False
  | _ => False
theorem markG_ok (p : Nat) (P : Program) (m s : Nat) : GSpec p P m (markG s) := by
  intro t τ h K hr hs
  unfold markG at hs
  split at hs
  · split at hs
    · rename_i c ty hg
      exact ⟨t, τ, _, Weak.mark 0 1 hg, hr, hs⟩
    · exact hs.elim
  · exact hs.elim
noncomputable def thenLS (ls g : LS) : LS := fun t h K => ls t h fun e t' h' => match e with
  | .exit i => g t' h' fun _ t2 h2 => K (.exit i) t2 h2
  | e => K e t' h'
theorem thenLS_ok {p : Nat} {P : Program} {m : Nat} {b : Code} {ls g : LS} (hl : LSpec p P m b ls) (hg : GSpec p P m g) : LSpec p P m b (thenLS ls g) := by
  intro t τ h K hr hs
  refine Tri.post ((hl t τ h _ hr hs).mono ?_)
  rintro e τ' h' ⟨t', hr', hq⟩
  cases e with
  | exit i =>
    obtain ⟨t2, τ2, h2, hW, hr2, hq2⟩ := hg t' τ' h' _ hr' hq
    exact ⟨τ2, h2, hW, t2, hr2, hq2⟩
  | normal => exact ⟨τ', h', Weak.refl _ _ _ _, t', hr', hq⟩
  | ret => exact ⟨τ', h', Weak.refl _ _ _ _, t', hr', hq⟩
/-- Join of a row in the heap. -/
theorem join_row {P : Program} {f : FuncId} (h : JoinSaid P f) {xs : List ByteArray} {sep : ByteArray} {H : AH} {b c : Nat} {t : TypeId} (hb : H.get b = some (.cells ⟨xs.map Value.string⟩ t (0, 0))) (hx : xs ≠ []) (hc : xs.length ≤ c) (hl : xs.length ≤ 1000000)
    (hj : (Lib.join (xs.map (·.data.toList)) sep.data.toList).length ≤ 140737488355328) :
    CallOK P f ⟨[.slice (some ⟨b, 0, none⟩) xs.length c, .string sep]⟩ H (.string ⟨(Lib.join (xs.map (·.data.toList)) sep.data.toList).toArray⟩) H := by
  intro N w args' ha hr _
  obtain ⟨u0, v0, rfl, hu, hv⟩ := two_args ha
  rw [hv.inv_string]
  obtain ⟨e, o', he, hw, c', fr', rfl, h2, h3, h4, h5, h6, h7⟩ := hr.here b _ hb
  obtain ⟨f2, o1, c1, hsp, hfb, hcc, hzz, hoo, rfl⟩ := hu.inv_slice
  simp only at hfb hoo hcc
  have hfb : N b = some f2 := hfb
  rw [he] at hfb
  cases hfb
  have hp : 0 < xs.length := List.length_pos_iff.2 hx
  have ho1 : o1 = e.d := by rcases hoo with ⟨q1, _⟩ | q1 <;> omega
  subst ho1
  refine (h e.r e.d c1 xs sep w ?_ (lt_of_some hw) (by omega) (by omega) hj).mono ?_
  · intro j x hj
    have hjx : (Array.mk (xs.map Value.string))[j]? = some (.string x) := by
      have : (xs.map Value.string)[j]? = some (.string x) := by rw [List.getElem?_map, hj]; rfl
      simpa using this
    obtain ⟨x', q1, q2⟩ := h6 j _ hjx
    rw [q2.inv_string] at q1
    rw [cell_eq hw]
    exact q1
  · rintro en w' ⟨rfl, hb2⟩
    exact ⟨N, _, rfl, .string _, ext_below hr hb2⟩
end Go.Ev
/-! Plain laws: digits; joined parts and their one reading. -/
namespace RecLaw
open Go.Lib
/-! Digits -/
theorem dig_nat {d : Nat} (h : d < 10) : (UInt8.ofNat (48 + d)).toNat = 48 + d := by
  rw [UInt8.toNat_ofNat']
  exact Nat.mod_eq_of_lt (by omega)
theorem dd_digits (u : Nat) : ∀ b ∈ decDigits u, 48 ≤ b.toNat ∧ b.toNat ≤ 57 := by
  induction u using Nat.strongRecOn with
  | _ u ih =>
    intro b hb
    rw [decDigits] at hb
    split at hb
    · simp only [List.mem_singleton] at hb
      subst hb
      rw [dig_nat (by omega)]
      omega
    · rcases List.mem_append.1 hb with hb | hb
      · exact ih (u / 10) (by omega) b hb
      · simp only [List.mem_singleton] at hb
        subst hb
        rw [dig_nat (by omega)]
        omega
theorem dd_ne (u : Nat) : decDigits u ≠ [] := by
  rw [decDigits]
  split <;> simp
theorem dd_head (u : Nat) (h : 1 ≤ u) : (decDigits u).head? ≠ some 48 := by
  induction u using Nat.strongRecOn with
  | _ u ih =>
    rw [decDigits]
    split
    · simp only [List.head?_cons, ne_eq, Option.some.injEq]
      intro e
      have := congrArg UInt8.toNat e
      rw [dig_nat (by omega)] at this
      have h48 : (48 : UInt8).toNat = 48 := rfl
      omega
    · rw [List.head?_append]
      have := ih (u / 10) (by omega) (by omega)
      cases hq : decDigits (u / 10) with
      | nil => exact absurd hq (dd_ne _)
      | cons b r => rw [hq] at this; simpa using this
theorem dd_len (k : Nat) : ∀ u, u < 10 ^ (k + 1) → (decDigits u).length ≤ k + 1 := by
  induction k with
  | zero => intro u h; rw [decDigits, dif_pos (by omega)]; simp
  | succ k ih =>
    intro u h
    rw [decDigits]
    split
    · simp
    · have := ih (u / 10) (by rw [Nat.pow_succ] at h; omega)
      simp
      omega
theorem decFrom_app : ∀ (l m : List UInt8) (a b : Nat), decFrom a l = some b → decFrom a (l ++ m) = decFrom b m
  | [], m, a, b, h => by simp [decFrom] at h; subst h; rfl
  | x :: l, m, a, b, h => by
    simp only [decFrom, List.cons_append] at h ⊢
    cases hx : digitVal x with
    | none => simp [hx] at h
    | some d => simp only [hx] at h ⊢; exact decFrom_app l m _ b h
theorem digitVal_of {d : Nat} (h : d < 10) : digitVal (UInt8.ofNat (48 + d)) = some d := by
  unfold digitVal
  rw [dig_nat h, if_pos (by omega)]
  congr 1
  omega
theorem dd_dec (u : Nat) : decFrom 0 (decDigits u) = some u := by
  induction u using Nat.strongRecOn with
  | _ u ih =>
    rw [decDigits]
    split
    · rename_i h
      unfold decFrom decFrom
      rw [digitVal_of h]
      simp
    · rw [decFrom_app _ _ _ _ (ih (u / 10) (by omega))]
      simp only [decFrom, digitVal_of (by omega : u % 10 < 10)]
      congr 1
      omega
theorem dd_atoi (u : Nat) : atoi (decDigits u) = some (u : Int) := by
  have h1 := dd_dec u
  have h2 := dd_digits u
  cases hq : decDigits u with
  | nil => exact absurd hq (dd_ne u)
  | cons b r =>
    rw [hq] at h1 h2
    have hb := h2 b (by simp)
    have n1 : (b == 45) = false := beq_eq_false_iff_ne.2 fun e => by subst e; exact absurd hb.1 (by decide)
    have n2 : (b == 43) = false := beq_eq_false_iff_ne.2 fun e => by subst e; exact absurd hb.1 (by decide)
    unfold atoi decNat
    simp [n1, n2, h1]
theorem dd_inj {u v : Nat} (h : decDigits u = decDigits v) : u = v := by
  have h1 := dd_dec u
  rw [h, dd_dec v] at h1
  exact (Option.some.inj h1).symm
theorem dd_free {c : UInt8} (hc : c.toNat < 48) (u : Nat) : c ∉ decDigits u := fun h => by
  have := dd_digits u c h
  omega
/-! Parts that are joined -/
theorem idx_none {c : UInt8} : ∀ {q : List UInt8}, c ∉ q → indexByte q c = -1
  | [], _ => rfl
  | b :: l, h => by
    have h1 : (b == c) = false := beq_eq_false_iff_ne.2 fun e => h (by rw [e]; simp)
    have h2 := idx_none (q := l) fun e => h (List.mem_cons_of_mem _ e)
    unfold indexByte
    rw [h1, h2]
    rfl
theorem idx_at {c : UInt8} : ∀ {q : List UInt8} (s : List UInt8), c ∉ q → indexByte (q ++ c :: s) c = (q.length : Int)
  | [], s, _ => by
    show indexByte (c :: s) c = _
    unfold indexByte
    simp
  | b :: l, s, h => by
    have h1 : (b == c) = false := beq_eq_false_iff_ne.2 fun e => h (by rw [e]; simp)
    have h2 := idx_at (q := l) s fun e => h (List.mem_cons_of_mem _ e)
    show indexByte (b :: (l ++ c :: s)) c = _
    unfold indexByte
    rw [h1, h2]
    have h3 : ((l.length : Int) == -1) = false := beq_eq_false_iff_ne.2 (by omega)
    rw [h3]
    simp
def tail (c : UInt8) (r : List (List UInt8)) : List UInt8 := r.flatMap fun p => c :: p
def body (c : UInt8) (q : List UInt8) (r : List (List UInt8)) : List UInt8 := q ++ tail c r
theorem body_nil (c : UInt8) (q : List UInt8) : body c q [] = q := by simp [body, tail]
theorem body_cons (c : UInt8) (q p : List UInt8) (r : List (List UInt8)) : body c q (p :: r) = q ++ c :: body c p r := by simp [body, tail]
theorem count_body {c : UInt8} : ∀ (r : List (List UInt8)) (q : List UInt8), c ∉ q → (∀ p ∈ r, c ∉ p) → countByte (body c q r) c = r.length
  | [], q, h, _ => by rw [body_nil]; exact List.count_eq_zero.2 h
  | p :: r, q, h, h2 => by
    have ih := count_body r p (h2 p (by simp)) (fun x hx => h2 x (by simp [hx]))
    rw [body_cons]
    unfold countByte at ih ⊢
    rw [List.count_append, List.count_cons_self, ih, List.count_eq_zero.2 h]
    simp
theorem cut_eq {c : UInt8} : ∀ {q q' s s' : List UInt8}, c ∉ q → c ∉ q' → q ++ c :: s = q' ++ c :: s' → q = q' ∧ s = s'
  | [], [], s, s', _, _, h => ⟨rfl, by simpa using h⟩
  | [], b :: l, s, s', _, h2, h => by
    simp only [List.nil_append, List.cons_append, List.cons.injEq] at h
    exact absurd h.1 (fun e => h2 (by simp [e]))
  | b :: l, [], s, s', h1, _, h => by
    simp only [List.nil_append, List.cons_append, List.cons.injEq] at h
    exact absurd h.1 (fun e => h1 (by simp [e]))
  | b :: l, b' :: l', s, s', h1, h2, h => by
    simp only [List.cons_append, List.cons.injEq] at h
    obtain ⟨e1, e2⟩ := cut_eq (q := l) (q' := l') (fun e => h1 (by simp [e])) (fun e => h2 (by simp [e])) h.2
    exact ⟨by rw [h.1, e1], e2⟩
theorem body_inj {c : UInt8} : ∀ {r r' : List (List UInt8)} {q q' : List UInt8}, c ∉ q → c ∉ q' → (∀ p ∈ r, c ∉ p) → (∀ p ∈ r', c ∉ p) → body c q r = body c q' r' → q = q' ∧ r = r'
  | [], [], q, q', _, _, _, _, h => by rw [body_nil, body_nil] at h; exact ⟨h, rfl⟩
  | [], p :: r, q, q', h1, _, _, _, h => by
    rw [body_nil, body_cons] at h
    exact absurd (by rw [h]; simp) h1
  | p :: r, [], q, q', _, h2, _, _, h => by
    rw [body_nil, body_cons] at h
    exact absurd (by rw [← h]; simp) h2
  | p :: r, p' :: r', q, q', h1, h2, h3, h4, h => by
    rw [body_cons, body_cons] at h
    obtain ⟨e1, e2⟩ := cut_eq h1 h2 h
    obtain ⟨e3, e4⟩ := body_inj (h3 p (by simp)) (h4 p' (by simp)) (fun x hx => h3 x (by simp [hx])) (fun x hx => h4 x (by simp [hx])) e2
    exact ⟨e1, by rw [e3, e4]⟩
theorem join_body (c : UInt8) (q : List UInt8) (r : List (List UInt8)) : join (q :: r) [c] = body c q r := by
  rw [join_cons]
  unfold body joinTail tail
  rw [List.flatMap_def]
  rfl
theorem body_len (c : UInt8) (k : Nat) : ∀ (r : List (List UInt8)) (q : List UInt8), q.length ≤ k → (∀ p ∈ r, p.length ≤ k) → (body c q r).length ≤ (r.length + 1) * (k + 1)
  | [], q, h, _ => by rw [body_nil]; simp; omega
  | p :: r, q, h, h2 => by
    have ih := body_len c k r p (h2 p (by simp)) (fun x hx => h2 x (by simp [hx]))
    rw [body_cons, List.length_append, List.length_cons, List.length_cons, Nat.succ_mul]
    omega
end RecLaw
/-! Plain laws for PathsStay: units in their normal form, paths without dots. -/
namespace PathLaw
open RecLaw Go.Lib
theorem mc {α : Type} {P : α → Prop} {a : α} {l : List α} (h0 : P a) (h : ∀ x ∈ l, P x) : ∀ x ∈ a :: l, P x := fun x hx => (List.mem_cons.1 hx).elim (fun e => e ▸ h0) (h x)
theorem ma {α : Type} {P : α → Prop} {a l : List α} (h0 : ∀ x ∈ a, P x) (h : ∀ x ∈ l, P x) : ∀ x ∈ a ++ l, P x := fun x hx => (List.mem_append.1 hx).elim (h0 x) (h x)
def isHexB (c : UInt8) : Bool := (decide (48 ≤ c) && decide (c ≤ 57)) || (decide (97 ≤ c) && decide (c ≤ 102)) || (decide (65 ≤ c) && decide (c ≤ 70))
def hexV (c : UInt8) : UInt8 := if c ≤ 57 then c - 48 else if c ≤ 70 then c - 55 else c - 87
def unitB (a b : UInt8) : UInt8 := hexV a * 16 + hexV b
def upH (n : UInt8) : UInt8 := if n < 10 then 48 + n else 55 + n
def pctB (c : UInt8) : List UInt8 := [37, upH (c / 16), upH (c % 16)]
def freeB (c : UInt8) : Bool := (decide (97 ≤ c) && decide (c ≤ 122)) || (decide (65 ≤ c) && decide (c ≤ 90)) || (decide (48 ≤ c) && decide (c ≤ 57)) || c == 45 || c == 46 || c == 95 || c == 126
/-- What a unit becomes. -/
def tok (u : UInt8) : List UInt8 := if freeB u then [u] else pctB u
/-- Units in their normal form; none: one is wrong. -/
def nu : List UInt8 → Option (List UInt8)
  | [] => some []
  | [c] => if c = 37 then none else some [c]
  | [c, a] => if c = 37 then none else (nu [a]).map (c :: ·)
  | c :: a :: b :: r => if c = 37 then if isHexB a && isHexB b then (nu r).map (tok (unitB a b) ++ ·) else none else (nu (a :: b :: r)).map (c :: ·)
theorem nu_cons {c : UInt8} (h : c ≠ 37) : ∀ l, nu (c :: l) = (nu l).map (c :: ·)
  | [] => by simp [nu, h]
  | [a] => by simp [nu, h]
  | a :: b :: r => by rw [nu, if_neg h]
theorem nu_unit {a b : UInt8} (r : List UInt8) (h : (isHexB a && isHexB b) = true) : nu (37 :: a :: b :: r) = (nu r).map (tok (unitB a b) ++ ·) := by rw [nu, if_pos rfl, if_pos h]
theorem nu_bad {a b : UInt8} (r : List UInt8) (h : (isHexB a && isHexB b) = false) : nu (37 :: a :: b :: r) = none := by rw [nu, if_pos rfl, h]; rfl
theorem nu_short : ∀ {l : List UInt8}, l.length < 2 → nu (37 :: l) = none
  | [], _ => rfl
  | [_], _ => by simp [nu]
  | _ :: _ :: _, h => absurd h (by simp)
theorem all_u8 {p : UInt8 → Bool} (h : (List.range 256).all (fun n => p (UInt8.ofNat n)) = true) (c : UInt8) : p c = true := by
  have := List.all_eq_true.1 h c.toNat (List.mem_range.2 c.toNat_lt)
  rwa [UInt8.ofNat_toNat] at this
/-- Units that stay: upper digits of a byte that is not free. -/
def nm : List UInt8 → Bool
  | [] => true
  | [c] => c != 37
  | [c, a] => c != 37 && nm [a]
  | c :: a :: b :: r => if c = 37 then isHexB a && isHexB b && (pctB (unitB a b) == [37, a, b]) && !freeB (unitB a b) && nm r else nm (a :: b :: r)
theorem nm_cons {c : UInt8} (h : c ≠ 37) : ∀ l, nm (c :: l) = nm l
  | [] => by simp [nm, h]
  | [a] => by simp [nm, h]
  | a :: b :: r => by rw [nm, if_neg h]
theorem nm_pct (u : UInt8) (hu : freeB u = false) (r : List UInt8) : nm (pctB u ++ r) = nm r := by
  have h : (isHexB (upH (u / 16)) && isHexB (upH (u % 16)) && (unitB (upH (u / 16)) (upH (u % 16)) == u)) = true := all_u8 (p := fun u => isHexB (upH (u / 16)) && isHexB (upH (u % 16)) && (unitB (upH (u / 16)) (upH (u % 16)) == u)) (by decide +kernel) u
  simp only [Bool.and_eq_true, beq_iff_eq] at h
  show nm (37 :: upH (u / 16) :: upH (u % 16) :: r) = _
  rw [nm, if_pos rfl, h.1.1, h.1.2, h.2, hu]
  simp [pctB]
theorem free_ne {u : UInt8} (h : freeB u = true) : u ≠ 37 := fun e => by subst e; exact absurd h (by decide)
theorem nm_tok (u : UInt8) (r : List UInt8) : nm (tok u ++ r) = nm r := by
  unfold tok
  cases h : freeB u with
  | true => exact nm_cons (free_ne h) r
  | false => exact nm_pct u h r
theorem nu_nm : ∀ (l : List UInt8) {r : List UInt8}, nu l = some r → nm r = true
  | [], r, h => by cases h; rfl
  | [c], r, h => by
    unfold nu at h
    split at h
    · cases h
    · rename_i hc; cases h; simp [nm, hc]
  | [c, a], r, h => by
    unfold nu at h
    split at h
    · cases h
    · rename_i hc
      obtain ⟨s, h1, rfl⟩ := Option.map_eq_some_iff.1 h
      rw [nm_cons hc]; exact nu_nm [a] h1
  | c :: a :: b :: l, r, h => by
    unfold nu at h
    split at h
    · split at h
      · obtain ⟨s, h1, rfl⟩ := Option.map_eq_some_iff.1 h
        rw [nm_tok]; exact nu_nm l h1
      · cases h
    · rename_i hc
      obtain ⟨s, h1, rfl⟩ := Option.map_eq_some_iff.1 h
      rw [nm_cons hc]; exact nu_nm (a :: b :: l) h1
theorem nm_nu : ∀ (l : List UInt8), nm l = true → nu l = some l
  | [], _ => rfl
  | [c], h => by simp [nm] at h; simp [nu, h]
  | [c, a], h => by
    simp only [nm, Bool.and_eq_true, bne_iff_ne] at h
    have := nm_nu [a] (by simpa [nm] using h.2)
    rw [nu, if_neg h.1, this]; rfl
  | c :: a :: b :: l, h => by
    by_cases hc : c = 37
    · subst hc
      rw [nm, if_pos rfl] at h
      simp only [Bool.and_eq_true, beq_iff_eq, Bool.not_eq_true'] at h
      obtain ⟨⟨⟨h1, h2⟩, h3⟩, h4⟩ := h
      rw [nu, if_pos rfl, h1.1, h1.2, nm_nu l h4]
      simp only [Bool.and_self, if_true, Option.map_some]
      have : tok (unitB a b) = [37, a, b] := by unfold tok; rw [h3, ← h2]; rfl
      rw [this]; rfl
    · rw [nm, if_neg hc] at h
      rw [nu, if_neg hc, nm_nu (a :: b :: l) h]; rfl
theorem hex47 : isHexB 47 = false := by decide
theorem nm_cut : ∀ (a b : List UInt8), nm (a ++ 47 :: b) = true → nm a = true ∧ nm b = true
  | [], b, h => ⟨rfl, by rwa [List.nil_append, nm_cons (by decide)] at h⟩
  | [c], b, h => by
    by_cases hc : c = 37
    · subst hc
      cases b with
      | nil => simp [nm] at h
      | cons x b => simp [nm, hex47] at h
    · rw [List.cons_append, nm_cons hc] at h
      obtain ⟨_, h2⟩ := nm_cut [] b h
      exact ⟨by simp [nm, hc], h2⟩
  | [c, x], b, h => by
    by_cases hc : c = 37
    · subst hc
      simp [nm, hex47] at h
    · rw [List.cons_append, nm_cons hc] at h
      obtain ⟨h1, h2⟩ := nm_cut [x] b h
      exact ⟨by rw [nm_cons hc]; exact h1, h2⟩
  | c :: x :: y :: a, b, h => by
    by_cases hc : c = 37
    · subst hc
      have h : nm (37 :: x :: y :: (a ++ 47 :: b)) = true := h
      rw [nm, if_pos rfl] at h
      simp only [Bool.and_eq_true] at h
      obtain ⟨h1, h2⟩ := nm_cut a b h.2
      refine ⟨?_, h2⟩
      rw [nm, if_pos rfl]
      simp only [Bool.and_eq_true]
      exact ⟨h.1, h1⟩
    · rw [List.cons_append, nm_cons hc] at h
      obtain ⟨h1, h2⟩ := nm_cut (x :: y :: a) b h
      exact ⟨by rw [nm_cons hc]; exact h1, h2⟩
theorem nm_join : ∀ (a b : List UInt8), nm a = true → nm b = true → nm (a ++ 47 :: b) = true
  | [], b, _, hb => by rw [List.nil_append, nm_cons (by decide)]; exact hb
  | [c], b, ha, hb => by
    have hc : c ≠ 37 := by simpa [nm] using ha
    rw [List.cons_append, nm_cons hc]; exact nm_join [] b rfl hb
  | [c, x], b, ha, hb => by
    simp only [nm, Bool.and_eq_true, bne_iff_ne] at ha
    rw [List.cons_append, nm_cons ha.1]; exact nm_join [x] b (by simpa [nm] using ha.2) hb
  | c :: x :: y :: a, b, ha, hb => by
    by_cases hc : c = 37
    · subst hc
      show nm (37 :: x :: y :: (a ++ 47 :: b)) = true
      rw [nm, if_pos rfl] at ha ⊢
      simp only [Bool.and_eq_true] at ha ⊢
      exact ⟨ha.1, nm_join a b ha.2 hb⟩
    · rw [nm_cons hc] at ha
      rw [List.cons_append, nm_cons hc]; exact nm_join (x :: y :: a) b ha hb
theorem nm_body : ∀ (r : List (List UInt8)) (q : List UInt8), nm (body 47 q r) = true ↔ nm q = true ∧ ∀ p ∈ r, nm p = true
  | [], q => by rw [body_nil]; simp
  | p :: r, q => by
    rw [body_cons]
    have ih := nm_body r p
    constructor
    · intro h
      obtain ⟨h1, h2⟩ := nm_cut _ _ h
      obtain ⟨h3, h4⟩ := ih.1 h2
      exact ⟨h1, mc h3 h4⟩
    · rintro ⟨h1, h2⟩
      exact nm_join _ _ h1 (ih.2 ⟨h2 p (by simp), fun x hx => h2 x (by simp [hx])⟩)
/-! Bytes that a path may have -/
def inkB (c : UInt8) : Bool := decide (33 ≤ c) && decide (c ≤ 126) && c != 63 && c != 35
theorem tok_ink (u : UInt8) : ∀ c ∈ tok u, inkB c = true := by
  have := all_u8 (p := fun u => (tok u).all inkB) (by decide +kernel) u
  exact List.all_eq_true.1 this
theorem tok_len (u : UInt8) : (tok u).length ≤ 3 := by unfold tok; split <;> simp [pctB]
theorem nu_ink : ∀ (l : List UInt8) {r : List UInt8}, nu l = some r → (∀ c ∈ l, inkB c = true) → (∀ c ∈ r, inkB c = true) ∧ r.length ≤ l.length
  | [], r, h, _ => by cases h; simp
  | [c], r, h, hi => by
    unfold nu at h
    split at h
    · cases h
    · cases h; exact ⟨hi, Nat.le_refl _⟩
  | [c, a], r, h, hi => by
    unfold nu at h
    split at h
    · cases h
    · obtain ⟨s, h1, rfl⟩ := Option.map_eq_some_iff.1 h
      obtain ⟨h2, h3⟩ := nu_ink [a] h1 (fun x hx => hi x (by simp at hx; simp [hx]))
      exact ⟨mc (hi _ (by simp)) h2, by simp at h3 ⊢; omega⟩
  | c :: a :: b :: l, r, h, hi => by
    unfold nu at h
    split at h
    · split at h
      · obtain ⟨s, h1, rfl⟩ := Option.map_eq_some_iff.1 h
        obtain ⟨h2, h3⟩ := nu_ink l h1 (fun x hx => hi x (by simp [hx]))
        have := tok_len (unitB a b)
        exact ⟨ma (tok_ink _) h2, by simp; omega⟩
      · cases h
    · obtain ⟨s, h1, rfl⟩ := Option.map_eq_some_iff.1 h
      obtain ⟨h2, h3⟩ := nu_ink (a :: b :: l) h1 (fun x hx => hi x (List.mem_cons_of_mem _ hx))
      exact ⟨mc (hi _ (by simp)) h2, by simp at h3 ⊢; omega⟩
theorem nu_big : ∀ (m : Nat) (l r : List UInt8), l.length ≤ m → nu l = some r → r.length ≤ 3 * m := by
  intro m
  induction m with
  | zero => intro l r h1 h2; have : l = [] := List.length_eq_zero_iff.1 (by omega); subst this; cases h2; simp
  | succ m ih =>
    intro l r h1 h2
    match l, h1, h2 with
    | [], _, h2 => cases h2; simp
    | c :: l, h1, h2 =>
      simp only [List.length_cons] at h1
      by_cases hc : c = 37
      · subst hc
        match l, h1, h2 with
        | [], _, h2 => cases h2
        | [_], _, h2 => rw [nu_short (by simp)] at h2; cases h2
        | a :: b :: t, h1, h2 =>
          simp only [List.length_cons] at h1
          cases hh : isHexB a && isHexB b with
          | false => rw [nu_bad t hh] at h2; cases h2
          | true =>
            rw [nu_unit t hh] at h2
            obtain ⟨s, h3, rfl⟩ := Option.map_eq_some_iff.1 h2
            have := ih t s (by omega) h3
            have := tok_len (unitB a b)
            simp; omega
      · rw [nu_cons hc] at h2
        obtain ⟨s, h3, rfl⟩ := Option.map_eq_some_iff.1 h2
        have := ih l s (by omega) h3
        simp; omega
/-! Dots -/
def stepD (out : List (List UInt8)) (w : List UInt8) (last : Bool) : List (List UInt8) :=
  if w = [46] then (if last then out ++ [[]] else out) else if w = [46, 46] then (if last then out.dropLast ++ [[]] else out.dropLast) else out ++ [w]
def dots : List (List UInt8) → List (List UInt8) → List (List UInt8)
  | out, [] => out
  | out, [w] => stepD out w true
  | out, w :: v :: r => dots (stepD out w false) (v :: r)
def mu (L : List (List UInt8)) : Nat := (L.map fun p => p.length + 1).sum
theorem mu_app (a b : List (List UInt8)) : mu (a ++ b) = mu a + mu b := by simp [mu]
theorem mu_drop (a : List (List UInt8)) : mu a.dropLast ≤ mu a := by
  rcases List.eq_nil_or_concat a with rfl | ⟨l, x, rfl⟩
  · simp
  · rw [List.concat_eq_append, List.dropLast_append_of_ne_nil (by simp), mu_app, mu_app]; simp [mu]
/-- Pieces that stay where they are. -/
def stays (P : List UInt8 → Prop) (L : List (List UInt8)) : Prop := ∀ w ∈ L, w ≠ [46] ∧ w ≠ [46, 46] ∧ P w
theorem step_ok {P : List UInt8 → Prop} (h0 : P []) {out : List (List UInt8)} {w : List UInt8} (last : Bool) (ho : stays P out) (hw : P w) : stays P (stepD out w last) ∧ mu (stepD out w last) ≤ mu out + (w.length + 1) ∧ (last = true → stepD out w last ≠ []) := by
  have hd : stays P out.dropLast := fun x hx => ho x (List.dropLast_subset _ hx)
  have hm := mu_drop out
  have happ : ∀ (L : List (List UInt8)), stays P L → ∀ x, x ≠ [46] → x ≠ [46, 46] → P x → stays P (L ++ [x]) := fun L hL x q1 q2 q3 y hy => by
    rcases List.mem_append.1 hy with hy | hy
    · exact hL y hy
    · rw [List.mem_singleton.1 hy]; exact ⟨q1, q2, q3⟩
  have hs : ∀ x : List UInt8, mu [x] = x.length + 1 := fun x => by simp [mu]
  unfold stepD
  split
  · rename_i e; subst e
    cases last
    · exact ⟨ho, by simp, fun q => by cases q⟩
    · exact ⟨happ _ ho _ (by simp) (by simp) h0, by simp only [if_true]; rw [mu_app, hs]; simp, fun _ => by simp⟩
  · split
    · rename_i e; subst e
      cases last
      · exact ⟨hd, by simp only [Bool.false_eq_true, if_false]; omega, fun q => by cases q⟩
      · exact ⟨happ _ hd _ (by simp) (by simp) h0, by simp only [if_true]; rw [mu_app, hs]; simp; omega, fun _ => by simp⟩
    · rename_i e1 e2
      exact ⟨happ _ ho _ e1 e2 hw, by rw [mu_app, hs]; omega, fun _ => by simp⟩
theorem mu_cons (w : List UInt8) (r : List (List UInt8)) : mu (w :: r) = w.length + 1 + mu r := by simp [mu]
theorem dots_ok {P : List UInt8 → Prop} (h0 : P []) : ∀ (ws out : List (List UInt8)), stays P out → (∀ w ∈ ws, P w) → ws ≠ [] → stays P (dots out ws) ∧ mu (dots out ws) ≤ mu out + mu ws ∧ dots out ws ≠ []
  | [], _, _, _, h => absurd rfl h
  | [w], out, ho, hw, _ => by
    obtain ⟨a, b, c⟩ := step_ok h0 (w := w) true ho (hw w (by simp))
    exact ⟨a, by rw [mu_cons]; exact b, c rfl⟩
  | w :: v :: r, out, ho, hw, _ => by
    obtain ⟨a, b, _⟩ := step_ok h0 (w := w) false ho (hw w (by simp))
    obtain ⟨x, y, z⟩ := dots_ok h0 (v :: r) _ a (fun u hu => hw u (by simp at hu ⊢; exact .inr hu)) (by simp)
    refine ⟨x, ?_, z⟩
    have := mu_cons w (v :: r)
    show mu (dots (stepD out w false) (v :: r)) ≤ _
    omega
theorem dots_id {P : List UInt8 → Prop} : ∀ (ws out : List (List UInt8)), stays P ws → dots out ws = out ++ ws
  | [], out, _ => by simp [dots]
  | [w], out, h => by
    obtain ⟨a, b, _⟩ := h w (by simp)
    simp [dots, stepD, a, b]
  | w :: v :: r, out, h => by
    obtain ⟨a, b, _⟩ := h w (by simp)
    have e : stepD out w false = out ++ [w] := by simp [stepD, a, b]
    show dots (stepD out w false) (v :: r) = _
    rw [e, dots_id (v :: r) (out ++ [w]) (fun x hx => h x (by simp at hx ⊢; exact .inr hx))]
    simp
/-! Splitting -/
theorem split_ex (c : UInt8) : ∀ l : List UInt8, ∃ q r, l = body c q r ∧ c ∉ q ∧ ∀ p ∈ r, c ∉ p
  | [] => ⟨[], [], rfl, by simp, by simp⟩
  | x :: l => by
    obtain ⟨q, r, h1, h2, h3⟩ := split_ex c l
    by_cases hx : x = c
    · subst hx
      exact ⟨[], q :: r, by rw [body_cons, h1]; rfl, by simp, mc h2 h3⟩
    · exact ⟨x :: q, r, by rw [h1]; rfl, fun h => (List.mem_cons.1 h).elim (fun e => hx e.symm) h2, h3⟩
theorem body_mu (c : UInt8) : ∀ (r : List (List UInt8)) (q : List UInt8), (body c q r).length + 1 = mu (q :: r)
  | [], q => by rw [body_nil]; simp [mu]
  | p :: r, q => by
    have := body_mu c r p
    rw [body_cons, mu_cons, ← this, List.length_append, List.length_cons]
    omega
theorem body_mem {c x : UInt8} : ∀ (r : List (List UInt8)) (q : List UInt8), x ∈ body c q r → x = c ∨ x ∈ q ∨ ∃ p ∈ r, x ∈ p
  | [], q, h => by rw [body_nil] at h; exact .inr (.inl h)
  | p :: r, q, h => by
    rw [body_cons] at h
    rcases List.mem_append.1 h with h | h
    · exact .inr (.inl h)
    · rcases List.mem_cons.1 h with h | h
      · exact .inl h
      · rcases body_mem r p h with h | h | ⟨y, h1, h2⟩
        · exact .inl h
        · exact .inr (.inr ⟨p, by simp, h⟩)
        · exact .inr (.inr ⟨y, by simp [h1], h2⟩)
theorem mem_body {c x : UInt8} : ∀ (r : List (List UInt8)) (q : List UInt8) (p : List UInt8), p ∈ q :: r → x ∈ p → x ∈ body c q r
  | [], q, p, h, hx => by rw [body_nil]; simp at h; subst h; exact hx
  | y :: r, q, p, h, hx => by
    rw [body_cons]
    rcases List.mem_cons.1 h with rfl | h
    · exact List.mem_append_left _ hx
    · exact List.mem_append_right _ (List.mem_cons_of_mem _ (mem_body r y p h hx))
/-! Paths -/
/-- A path that may be. -/
def okP (l : List UInt8) : Bool := decide (l.length ≤ 1000) && l.head? == some 47 && l.all inkB
/-- The pieces of a text between strokes. -/
def spl (c : UInt8) : List UInt8 → List (List UInt8)
  | [] => [[]]
  | x :: l => if x = c then [] :: spl c l else match spl c l with
    | [] => [[x]]
    | q :: r => (x :: q) :: r
theorem spl_body (c : UInt8) : ∀ (l : List UInt8) (q : List UInt8) (r : List (List UInt8)), c ∉ q → (∀ p ∈ r, c ∉ p) → l = body c q r → spl c l = q :: r
  | l, [], [], _, _, h => by rw [h]; rfl
  | l, [], p :: r, h1, h2, h => by
    rw [h, body_cons]
    show spl c (c :: body c p r) = _
    rw [spl, if_pos rfl, spl_body c _ p r (h2 p (by simp)) (fun x hx => h2 x (by simp [hx])) rfl]
  | l, x :: q, r, h1, h2, h => by
    have hx : x ≠ c := fun e => h1 (by simp [e])
    rw [h]
    show spl c (x :: body c q r) = _
    rw [spl, if_neg hx, spl_body c _ q r (fun e => h1 (by simp [e])) h2 rfl]
  termination_by l q r => (r.length, q.length)
def joi (L : List (List UInt8)) : List UInt8 := match L with
  | [] => []
  | q :: r => body 47 q r
/-- The normal form of a path that may be. -/
def np (l : List UInt8) : Option (List UInt8) := (nu l).map fun s => 47 :: joi (dots [] (spl 47 s.tail))
/-- What a normal path is. -/
def Nrm (x : List UInt8) : Prop := ∃ q r, x = 47 :: body 47 q r ∧ (∀ p ∈ q :: r, (47 : UInt8) ∉ p ∧ nm p = true ∧ p ≠ [46] ∧ p ≠ [46, 46]) ∧ okP x = true
theorem okP_iff {l : List UInt8} : okP l = true ↔ l.length ≤ 1000 ∧ l.head? = some 47 ∧ ∀ c ∈ l, inkB c = true := by
  simp only [okP, Bool.and_eq_true, decide_eq_true_eq, beq_iff_eq, List.all_eq_true, and_assoc]
theorem np_nrm {l x : List UInt8} (h : okP l = true) (hx : np l = some x) : Nrm x := by
  obtain ⟨h1, h2, h3⟩ := okP_iff.1 h
  unfold np at hx
  obtain ⟨s, hs, rfl⟩ := Option.map_eq_some_iff.1 hx
  obtain ⟨i1, i2⟩ := nu_ink l hs h3
  have hn := nu_nm l hs
  obtain ⟨t, rfl⟩ : ∃ t, s = 47 :: t := by
    cases l with
    | nil => simp at h2
    | cons c l =>
      simp at h2
      subst h2
      rw [nu_cons (by decide)] at hs
      obtain ⟨t, _, rfl⟩ := Option.map_eq_some_iff.1 hs
      exact ⟨t, rfl⟩
  obtain ⟨q, r, e, f1, f2⟩ := split_ex 47 t
  rw [nm_cons (by decide)] at hn
  rw [e] at hn
  obtain ⟨n1, n2⟩ := (nm_body r q).1 hn
  have hq : ∀ p ∈ q :: r, (47 : UInt8) ∉ p ∧ nm p = true ∧ ∀ c ∈ p, inkB c = true := fun p hp => by
    refine ⟨?_, ?_, fun c hc => i1 c (List.mem_cons_of_mem _ (by rw [e]; exact mem_body r q p hp hc))⟩
    · exact mc (P := fun p => (47 : UInt8) ∉ p) f1 f2 p hp
    · exact mc (P := fun p => nm p = true) n1 n2 p hp
  obtain ⟨d1, d2, d3⟩ := dots_ok (P := fun p => (47 : UInt8) ∉ p ∧ nm p = true ∧ ∀ c ∈ p, inkB c = true) ⟨by simp, rfl, by simp⟩ (q :: r) [] (fun _ h => by cases h) hq (by simp)
  rw [List.tail_cons, spl_body 47 t q r f1 f2 e]
  cases hd : dots [] (q :: r) with
  | nil => exact absurd hd d3
  | cons q2 r2 =>
    rw [hd] at d1 d2
    have hm := body_mu 47 r2 q2
    have hm2 := body_mu 47 r q
    have hl : (47 :: t : List UInt8).length = t.length + 1 := rfl
    refine ⟨q2, r2, rfl, fun p hp => ⟨(d1 p hp).2.2.1, (d1 p hp).2.2.2.1, (d1 p hp).1, (d1 p hp).2.1⟩, okP_iff.2 ⟨?_, rfl, fun c hc => ?_⟩⟩
    · show (body 47 q2 r2).length + 1 ≤ 1000
      rw [e] at hl
      simp only [mu, List.map_nil, List.sum_nil, Nat.zero_add] at d2 hm hm2
      simp only [List.length_cons] at i2
      rw [e] at i2
      omega
    · rcases List.mem_cons.1 hc with rfl | hc
      · decide
      · rcases body_mem r2 q2 hc with rfl | hc | ⟨p, hp, hc⟩
        · decide
        · exact (d1 q2 (by simp)).2.2.2.2 c hc
        · exact (d1 p (by simp [hp])).2.2.2.2 c hc
/-- What is normal stays. -/
theorem nrm_np {x : List UInt8} (h : Nrm x) : np x = some x := by
  obtain ⟨q, r, rfl, h1, h2⟩ := h
  have hn : nm (47 :: body 47 q r) = true := by
    rw [nm_cons (by decide)]
    exact (nm_body r q).2 ⟨(h1 q (by simp)).2.1, fun p hp => (h1 p (by simp [hp])).2.1⟩
  unfold np
  rw [nm_nu _ hn, Option.map_some, List.tail_cons, spl_body 47 _ q r (h1 q (by simp)).1 (fun p hp => (h1 p (by simp [hp])).1) rfl,
    dots_id (P := fun _ => True) _ _ (fun p hp => ⟨(h1 p hp).2.2.1, (h1 p hp).2.2.2, trivial⟩)]
  rfl
end PathLaw

/-! Plain laws for QueriesComeBack: words of a query, pairs that are written and read, pairs in order. -/
namespace QueryLaw
open PathLaw RecLaw Go.Lib
/-- A plus stands for a blank. -/
def plusB (c : UInt8) : UInt8 := if c = 43 then 32 else c
/-- The bytes for which a word stands; none: a unit is wrong. -/
def dq : List UInt8 → Option (List UInt8)
  | [] => some []
  | [c] => if c = 37 then none else some [plusB c]
  | [c, a] => if c = 37 then none else (dq [a]).map (plusB c :: ·)
  | c :: a :: b :: r => if c = 37 then if isHexB a && isHexB b then (dq r).map (unitB a b :: ·) else none else (dq (a :: b :: r)).map (plusB c :: ·)
theorem dq_cons {c : UInt8} (h : c ≠ 37) : ∀ l, dq (c :: l) = (dq l).map (plusB c :: ·)
  | [] => by simp [dq, h]
  | [a] => by simp [dq, h]
  | a :: b :: r => by rw [dq, if_neg h]
theorem dq_unit {a b : UInt8} (r : List UInt8) (h : (isHexB a && isHexB b) = true) : dq (37 :: a :: b :: r) = (dq r).map (unitB a b :: ·) := by rw [dq, if_pos rfl, if_pos h]
theorem dq_bad {a b : UInt8} (r : List UInt8) (h : (isHexB a && isHexB b) = false) : dq (37 :: a :: b :: r) = none := by rw [dq, if_pos rfl, h]; rfl
theorem dq_short : ∀ {l : List UInt8}, l.length < 2 → dq (37 :: l) = none
  | [], _ => rfl
  | [_], _ => by simp [dq]
  | _ :: _ :: _, h => absurd h (by simp)
theorem dq_len : ∀ (l : List UInt8) {r : List UInt8}, dq l = some r → r.length ≤ l.length
  | [], r, h => by cases h; simp
  | [c], r, h => by
    unfold dq at h
    split at h
    · cases h
    · cases h; exact Nat.le_refl _
  | [c, a], r, h => by
    unfold dq at h
    split at h
    · cases h
    · obtain ⟨s, h1, rfl⟩ := Option.map_eq_some_iff.1 h
      have := dq_len [a] h1
      simp at this ⊢; omega
  | c :: a :: b :: l, r, h => by
    unfold dq at h
    split at h
    · split at h
      · obtain ⟨s, h1, rfl⟩ := Option.map_eq_some_iff.1 h
        have := dq_len l h1
        simp; omega
      · cases h
    · obtain ⟨s, h1, rfl⟩ := Option.map_eq_some_iff.1 h
      have := dq_len (a :: b :: l) h1
      simp at this ⊢; omega
/-- A byte of a word in a query. -/
def qc (c : UInt8) : List UInt8 := if c = 32 then [43] else if freeB c then [c] else pctB c
def qw (s : List UInt8) : List UInt8 := s.flatMap qc
theorem qw_cons (c : UInt8) (s : List UInt8) : qw (c :: s) = qc c ++ qw s := by unfold qw; rw [List.flatMap_cons]
theorem qw_snoc (s : List UInt8) (c : UInt8) : qw (s ++ [c]) = qw s ++ qc c := by unfold qw; rw [List.flatMap_append]; simp
def wordB (c : UInt8) : Bool := decide (33 ≤ c) && decide (c ≤ 126) && c != 38 && c != 61 && c != 35
theorem qc_word (u : UInt8) : ∀ c ∈ qc u, wordB c = true := by
  have := all_u8 (p := fun u => (qc u).all wordB) (by decide +kernel) u
  exact List.all_eq_true.1 this
theorem qw_word : ∀ (s : List UInt8), ∀ c ∈ qw s, wordB c = true
  | [], c, h => by cases h
  | x :: s, c, h => by
    rw [qw_cons] at h
    rcases List.mem_append.1 h with h | h
    · exact qc_word x c h
    · exact qw_word s c h
theorem qc_len (u : UInt8) : (qc u).length ≤ 3 := by
  have := all_u8 (p := fun u => decide ((qc u).length ≤ 3)) (by decide +kernel) u
  exact of_decide_eq_true this
theorem qw_len : ∀ (s : List UInt8), (qw s).length ≤ 3 * s.length
  | [] => Nat.le_refl _
  | x :: s => by
    have h1 := qw_len s
    have h2 := qc_len x
    rw [qw_cons, List.length_append, List.length_cons]; omega
theorem qc_dq (u : UInt8) (r : List UInt8) : dq (qc u ++ r) = (dq r).map (u :: ·) := by
  unfold qc
  split
  · rename_i e; subst e; exact dq_cons (by decide) r
  · split
    · rename_i h1 h2
      have : plusB u = u := by
        unfold plusB
        rw [if_neg]
        rintro rfl
        exact absurd h2 (by decide)
      rw [List.singleton_append, dq_cons (free_ne h2), this]
    · have h : (isHexB (upH (u / 16)) && isHexB (upH (u % 16)) && (unitB (upH (u / 16)) (upH (u % 16)) == u)) = true := all_u8 (p := fun u => isHexB (upH (u / 16)) && isHexB (upH (u % 16)) && (unitB (upH (u / 16)) (upH (u % 16)) == u)) (by decide +kernel) u
      rw [Bool.and_eq_true, beq_iff_eq] at h
      show dq (37 :: upH (u / 16) :: upH (u % 16) :: r) = _
      rw [dq_unit r h.1, h.2]
theorem dq_qw : ∀ (s : List UInt8), dq (qw s) = some s
  | [] => rfl
  | x :: s => by rw [qw_cons, qc_dq, dq_qw s]; rfl
/-! Pairs -/
abbrev Pr : Type := List UInt8 × List UInt8
/-- What stands before the first =, and what stands behind it. -/
def cutB : List UInt8 → Pr
  | [] => ([], [])
  | c :: l => if c = 61 then ([], l) else (c :: (cutB l).1, (cutB l).2)
theorem cut_none : ∀ {q : List UInt8}, (61 : UInt8) ∉ q → cutB q = (q, [])
  | [], _ => rfl
  | c :: q, h => by
    have h1 : c ≠ 61 := fun e => h (by simp [e])
    have h2 := cut_none (q := q) fun e => h (by simp [e])
    rw [cutB, if_neg h1, h2]
theorem cut_at : ∀ {q : List UInt8} (v : List UInt8), (61 : UInt8) ∉ q → cutB (q ++ 61 :: v) = (q, v)
  | [], v, _ => by rw [List.nil_append, cutB, if_pos rfl]
  | c :: q, v, h => by
    have h1 : c ≠ 61 := fun e => h (by simp [e])
    have h2 := cut_at (q := q) v fun e => h (by simp [e])
    rw [List.cons_append, cutB, if_neg h1, h2]
theorem cut_len : ∀ (l : List UInt8), (cutB l).1.length ≤ l.length ∧ (cutB l).2.length ≤ l.length
  | [] => ⟨Nat.le_refl _, Nat.le_refl _⟩
  | c :: l => by
    have := cut_len l
    unfold cutB
    split
    · exact ⟨Nat.zero_le _, by simp⟩
    · simp; omega
def prB (s : List UInt8) : Option Pr := match dq (cutB s).1, dq (cutB s).2 with
  | some n, some v => some (n, v)
  | _, _ => none
def prs : List (List UInt8) → Option (List Pr)
  | [] => some []
  | s :: r => if s = [] then prs r else match prB s, prs r with
    | some p, some l => some (p :: l)
    | _, _ => none
def wr (p : Pr) : List UInt8 := qw p.1 ++ 61 :: qw p.2
theorem wr_ne (p : Pr) : wr p ≠ [] := by unfold wr; simp
theorem qw_no {c : UInt8} (h : wordB c = false) (s : List UInt8) : c ∉ qw s := fun hc => by rw [qw_word s c hc] at h; cases h
theorem wr_pr (p : Pr) : prB (wr p) = some p := by
  unfold prB wr
  rw [cut_at (qw p.2) (qw_no (by decide) p.1), dq_qw, dq_qw]
theorem wr_free (p : Pr) : (38 : UInt8) ∉ wr p := by
  unfold wr
  intro h
  rcases List.mem_append.1 h with h | h
  · exact qw_no (by decide) _ h
  · rcases List.mem_cons.1 h with h | h
    · cases h
    · exact qw_no (by decide) _ h
/-- The bytes that a query may have. -/
def qInk (c : UInt8) : Bool := decide (33 ≤ c) && decide (c ≤ 126) && c != 35
theorem word_ink {c : UInt8} (h : wordB c = true) : qInk c = true := by
  unfold wordB at h
  unfold qInk
  simp only [Bool.and_eq_true] at h ⊢
  exact ⟨h.1.1.1, h.2⟩
theorem wr_ink (p : Pr) : ∀ c ∈ wr p, qInk c = true := by
  unfold wr
  intro c h
  rcases List.mem_append.1 h with h | h
  · exact word_ink (qw_word _ c h)
  · rcases List.mem_cons.1 h with h | h
    · subst h; decide
    · exact word_ink (qw_word _ c h)
/-- Pairs as a query. -/
def qt (L : List Pr) : List UInt8 := join (L.map wr) [38]
theorem qt_cons (p : Pr) (L : List Pr) : qt (p :: L) = body 38 (wr p) (L.map wr) := by unfold qt; rw [List.map_cons, join_body]
theorem prs_wr : ∀ (L : List Pr), prs (L.map wr) = some L
  | [] => rfl
  | p :: L => by rw [List.map_cons, prs, if_neg (wr_ne p), wr_pr, prs_wr L]
/-- Pairs that are written are read as they were. -/
theorem qt_back : ∀ (L : List Pr), prs (spl 38 (qt L)) = some L
  | [] => rfl
  | p :: L => by
    rw [qt_cons, spl_body 38 _ _ _ (wr_free p) (fun x hx => by obtain ⟨y, _, rfl⟩ := List.mem_map.1 hx; exact wr_free y) rfl]
    exact prs_wr (p :: L)
theorem qt_ink : ∀ (L : List Pr), ∀ c ∈ qt L, qInk c = true
  | [], c, h => by cases h
  | p :: L, c, h => by
    rw [qt_cons] at h
    rcases body_mem _ _ h with rfl | h | ⟨x, hx, h⟩
    · decide
    · exact wr_ink p c h
    · obtain ⟨y, _, rfl⟩ := List.mem_map.1 hx
      exact wr_ink y c h
theorem spl_len_le (c : UInt8) : ∀ l : List UInt8, (spl c l).length ≤ l.length + 1
  | [] => Nat.le_refl _
  | x :: l => by
    have ih := spl_len_le c l
    rw [spl]
    split
    · simp; omega
    · split
      · simp
      · rename_i q r e
        rw [e] at ih
        simp at ih ⊢; omega
theorem prs_len : ∀ (ws : List (List UInt8)) {L : List Pr}, prs ws = some L → L.length ≤ ws.length
  | [], L, h => by cases h; simp
  | s :: r, L, h => by
    unfold prs at h
    split at h
    · have := prs_len r h; simp; omega
    · split at h
      · rename_i p l h1 h2
        cases h
        have := prs_len r h2
        simp; omega
      · cases h
/-! Order -/
theorem cmpB_asym : ∀ (a b : List UInt8), compareBytes a b < 0 → ¬ compareBytes b a < 0
  | [], [], h => absurd h (by decide)
  | [], _ :: _, _ => by show ¬ (1 : Int) < 0; decide
  | _ :: _, [], h => absurd h (by show ¬ (1 : Int) < 0; decide)
  | a :: l, b :: m, h => by
    unfold compareBytes at h ⊢
    by_cases h1 : a < b
    · have h2 : ¬ b < a := fun h2 => absurd (UInt8.lt_trans h1 h2) (UInt8.lt_irrefl a)
      rw [if_neg h2, if_pos h1]; decide
    · rw [if_neg h1] at h
      by_cases h2 : b < a
      · rw [if_pos h2] at h; exact absurd h (by decide)
      · rw [if_neg h2] at h
        rw [if_neg h2, if_neg h1]
        exact cmpB_asym l m h
/-- How two pairs are compared. -/
def cmpP (p q : Pr) : Int := if p.1 = q.1 then compareBytes p.2 q.2 else compareBytes p.1 q.1
def ltP (p q : Pr) : Bool := decide (cmpP p q < 0)
theorem ltP_asym {p q : Pr} (h : ltP p q = true) : ltP q p = false := by
  unfold ltP cmpP at h ⊢
  have h := of_decide_eq_true h
  refine decide_eq_false ?_
  by_cases e : p.1 = q.1
  · rw [if_pos e] at h; rw [if_pos e.symm]; exact cmpB_asym _ _ h
  · rw [if_neg e] at h; rw [if_neg (Ne.symm e)]; exact cmpB_asym _ _ h
/-- Puts an element into a list whose last one stands first. -/
def insR {α : Type} (lt : α → α → Bool) (x : α) : List α → List α
  | [] => [x]
  | y :: r => if lt x y then y :: insR lt x r else x :: y :: r
def isr {α : Type} (lt : α → α → Bool) : List α → List α → List α
  | acc, [] => acc.reverse
  | acc, x :: r => isr lt (insR lt x acc) r
def srtP (L : List Pr) : List Pr := isr ltP [] L
/-- Neighbours stand right; the last one stands first. -/
def stR {α : Type} (lt : α → α → Bool) : List α → Prop
  | [] => True
  | [_] => True
  | x :: y :: r => lt x y = false ∧ stR lt (y :: r)
theorem stR_tail {α : Type} {lt : α → α → Bool} {x : α} : ∀ {r : List α}, stR lt (x :: r) → stR lt r
  | [], _ => trivial
  | _ :: _, h => h.2
theorem insR_head {α : Type} {lt : α → α → Bool} (x : α) : ∀ (r : List α), ∃ h t, insR lt x r = h :: t ∧ (h = x ∨ r.head? = some h)
  | [] => ⟨x, [], rfl, .inl rfl⟩
  | y :: r => by
    unfold insR
    split
    · exact ⟨y, _, rfl, .inr rfl⟩
    · exact ⟨x, _, rfl, .inl rfl⟩
theorem insR_st {α : Type} {lt : α → α → Bool} (ha : ∀ a b, lt a b = true → lt b a = false) (x : α) : ∀ {r : List α}, stR lt r → stR lt (insR lt x r)
  | [], _ => trivial
  | y :: r, h => by
    unfold insR
    split
    · rename_i hx
      obtain ⟨u, t, e, hu⟩ := insR_head (lt := lt) x r
      have ih := insR_st ha x (stR_tail h)
      rw [e] at ih ⊢
      refine ⟨?_, ih⟩
      rcases hu with rfl | hu
      · exact ha _ _ hx
      · cases r with
        | nil => cases hu
        | cons z r => cases hu; exact h.1
    · rename_i hx
      exact ⟨by simpa using hx, h⟩
theorem isr_st {α : Type} {lt : α → α → Bool} (ha : ∀ a b, lt a b = true → lt b a = false) : ∀ (L acc : List α), stR lt acc → stR lt (isr lt acc L).reverse
  | [], acc, h => by rw [isr, List.reverse_reverse]; exact h
  | x :: L, acc, h => by rw [isr]; exact isr_st ha L _ (insR_st ha x h)
theorem insR_id {α : Type} {lt : α → α → Bool} {x : α} : ∀ {r : List α}, stR lt (x :: r) → insR lt x r = x :: r
  | [], _ => rfl
  | y :: r, h => by rw [insR, h.1]; rfl
theorem stR_app {α : Type} {lt : α → α → Bool} : ∀ (a b : List α), stR lt (a ++ b) → stR lt b
  | [], _, h => h
  | x :: a, b, h => stR_app a b (stR_tail h)
theorem isr_id {α : Type} {lt : α → α → Bool} : ∀ (L acc : List α), stR lt (L.reverse ++ acc) → isr lt acc L = acc.reverse ++ L
  | [], acc, _ => by rw [isr, List.append_nil]
  | x :: L, acc, h => by
    rw [List.reverse_cons, List.append_assoc] at h
    have h2 : stR lt (x :: acc) := stR_app _ _ h
    rw [isr, insR_id h2, isr_id L (x :: acc) h, List.reverse_cons, List.append_assoc]
    rfl
/-- Pairs in order stay as they are. -/
theorem srt_srt (L : List Pr) : srtP (srtP L) = srtP L := by
  have h := isr_st (lt := ltP) (fun _ _ => ltP_asym) L [] trivial
  unfold srtP
  have h2 : stR ltP ((isr ltP [] L).reverse ++ []) := by rw [List.append_nil]; exact h
  rw [isr_id _ [] h2]
  rfl
theorem insR_mem {α : Type} {lt : α → α → Bool} {x z : α} : ∀ {r : List α}, z ∈ insR lt x r ↔ z = x ∨ z ∈ r
  | [] => by simp [insR]
  | y :: r => by
    unfold insR
    split
    · rw [List.mem_cons, insR_mem]; simp [or_left_comm]
    · simp
theorem isr_mem {α : Type} {lt : α → α → Bool} {z : α} : ∀ (L acc : List α), z ∈ isr lt acc L ↔ z ∈ acc ∨ z ∈ L
  | [], acc => by simp [isr]
  | x :: L, acc => by rw [isr, isr_mem, insR_mem, List.mem_cons]; simp only [or_assoc, or_left_comm]
theorem insR_len {α : Type} {lt : α → α → Bool} {x : α} : ∀ {r : List α}, (insR lt x r).length = r.length + 1
  | [] => rfl
  | y :: r => by
    unfold insR
    split
    · rw [List.length_cons, insR_len]; rfl
    · rfl
theorem isr_len {α : Type} {lt : α → α → Bool} : ∀ (L acc : List α), (isr lt acc L).length = acc.length + L.length
  | [], acc => by simp [isr]
  | x :: L, acc => by rw [isr, isr_len, insR_len]; simp; omega
/-- No pair is empty. -/
def dl (L : List Pr) : List Pr := L.filter fun p => !(p.1.isEmpty && p.2.isEmpty)
theorem dl_srt (L : List Pr) : dl (srtP (dl L)) = srtP (dl L) := by
  unfold dl
  rw [List.filter_eq_self]
  intro p hp
  have := (isr_mem (lt := ltP) (z := p) (L.filter fun p => !(p.1.isEmpty && p.2.isEmpty)) []).1 hp
  rcases this with h | h
  · cases h
  · exact (List.mem_filter.1 h).2
/-- A query in its normal form. -/
def nq (L : List Pr) : List UInt8 := qt (srtP (dl L))
theorem nq_back (L : List Pr) : prs (spl 38 (nq L)) = some (srtP (dl L)) := qt_back _
theorem nq_nq (L : List Pr) : nq (srtP (dl L)) = nq L := by
  unfold nq
  rw [dl_srt, srt_srt]
theorem dl_len (L : List Pr) : (dl L).length ≤ L.length := List.length_filter_le _ _
theorem srt_len (L : List Pr) : (srtP L).length = L.length := by unfold srtP; rw [isr_len]; simp
end QueryLaw
/-! Plain laws for QueriesComeBack: tokens, their letters turned small or great; bounds of queries. -/
namespace QueryLaw
open PathLaw RecLaw Go.Lib
def marks : List UInt8 := [33, 35, 36, 37, 38, 39, 42, 43, 45, 46, 94, 95, 96, 124, 126]
def tokC (c : UInt8) : Bool := (decide (97 ≤ c) && decide (c ≤ 122)) || (decide (65 ≤ c) && decide (c ≤ 90)) || (decide (48 ≤ c) && decide (c ≤ 57)) || marks.contains c
def tokB (s : List UInt8) : Bool := !s.isEmpty && decide (s.length ≤ 100) && s.all tokC
theorem tokB_iff {s : List UInt8} : tokB s = true ↔ s ≠ [] ∧ s.length ≤ 100 ∧ ∀ c ∈ s, tokC c = true := by
  unfold tokB
  cases s <;> simp
theorem low_tok (c : UInt8) (h : tokC c = true) : tokC (lowerB c) = true ∧ lowerB (lowerB c) = lowerB c := by
  have := all_u8 (p := fun c => !tokC c || tokC (lowerB c) && (lowerB (lowerB c) == lowerB c)) (by decide +kernel) c
  rw [h] at this
  simpa using this
theorem up_tok (c : UInt8) (h : tokC c = true) : tokC (upperB c) = true ∧ upperB (upperB c) = upperB c := by
  have := all_u8 (p := fun c => !tokC c || tokC (upperB c) && (upperB (upperB c) == upperB c)) (by decide +kernel) c
  rw [h] at this
  simpa using this
theorem tok_asc (c : UInt8) (h : tokC c = true) : c.toNat < 128 := by
  have := all_u8 (p := fun c => !tokC c || decide (c.toNat < 128)) (by decide +kernel) c
  rw [h] at this
  simpa using this
theorem lowB_tok {s : List UInt8} (h : tokB s = true) : tokB (toLowerA s) = true ∧ toLowerA (toLowerA s) = toLowerA s := by
  obtain ⟨h1, h2, h3⟩ := tokB_iff.1 h
  refine ⟨tokB_iff.2 ⟨by simpa [toLowerA] using h1, by simpa [toLowerA] using h2, fun c hc => ?_⟩, ?_⟩
  · obtain ⟨d, hd, rfl⟩ := List.mem_map.1 hc
    exact (low_tok d (h3 d hd)).1
  · unfold toLowerA
    rw [List.map_map]
    exact List.map_congr_left fun c hc => (low_tok c (h3 c hc)).2
theorem upB_tok {s : List UInt8} (h : tokB s = true) : tokB (toUpperA s) = true ∧ toUpperA (toUpperA s) = toUpperA s := by
  obtain ⟨h1, h2, h3⟩ := tokB_iff.1 h
  refine ⟨tokB_iff.2 ⟨by simpa [toUpperA] using h1, by simpa [toUpperA] using h2, fun c hc => ?_⟩, ?_⟩
  · obtain ⟨d, hd, rfl⟩ := List.mem_map.1 hc
    exact (up_tok d (h3 d hd)).1
  · unfold toUpperA
    rw [List.map_map]
    exact List.map_congr_left fun c hc => (up_tok c (h3 c hc)).2
/-- A query that may be. -/
def okQ (s : List UInt8) : Bool := decide (s.length ≤ 1000) && s.all qInk
theorem okQ_iff {s : List UInt8} : okQ s = true ↔ s.length ≤ 1000 ∧ ∀ c ∈ s, qInk c = true := by
  simp only [okQ, Bool.and_eq_true, decide_eq_true_eq, List.all_eq_true]
theorem nq_ok {L : List Pr} (h : (nq L).length ≤ 1000) : okQ (nq L) = true := okQ_iff.2 ⟨h, qt_ink _⟩
theorem nq_count (L : List Pr) : (srtP (dl L)).length ≤ L.length := by rw [srt_len]; exact dl_len L
/-- The errors of ParseQuery, and its pairs. -/
def pqE (s : List UInt8) : Int := if okQ s then match prs (spl 38 s) with
  | none => 9
  | some L => if L.length ≤ 100 then 0 else 2
  else 3
def pqL (s : List UInt8) : List Pr := if pqE s = 0 then (prs (spl 38 s)).getD [] else []
theorem pq_of {s : List UInt8} {L : List Pr} (h1 : okQ s = true) (h2 : prs (spl 38 s) = some L) (h3 : L.length ≤ 100) : pqE s = 0 ∧ pqL s = L := by
  have h : pqE s = 0 := by
    unfold pqE
    rw [if_pos h1, h2]
    exact if_pos h3
  refine ⟨h, ?_⟩
  unfold pqL
  rw [if_pos h, h2]
  rfl
/-- A query in its normal form is read as its pairs, and has itself as its normal form. -/
theorem nq_pq {L : List Pr} (h : (nq L).length ≤ 1000) (hl : L.length ≤ 100) : pqE (nq L) = 0 ∧ nq (pqL (nq L)) = nq L ∧ pqL (nq L) = srtP (dl L) := by
  have hc := nq_count L
  obtain ⟨h1, h2⟩ := pq_of (nq_ok h) (nq_back L) (by omega)
  exact ⟨h1, by rw [h2]; exact nq_nq L, h2⟩
end QueryLaw
namespace Go.Proofs.YtjphemllikflpaaGreatDoor
open Go.Ev Go.RowKit RecLaw PathLaw

/-- A string of bytes. -/
def bl (l : List UInt8) : ByteArray := ⟨l.toArray⟩
def strV (l : List UInt8) : Value := .string (bl l)
theorem bl_list (l : List UInt8) : (bl l).data.toList = l := by simp [bl]
theorem bl_self (s : ByteArray) : bl s.data.toList = s := by
  obtain ⟨⟨l⟩⟩ := s
  rfl
theorem bl_inj {a b : List UInt8} (h : bl a = bl b) : a = b := by rw [← bl_list a, h, bl_list]
theorem bl_size (l : List UInt8) : (bl l).size = l.length := by
  show (bl l).data.size = _
  simp [bl]
theorem bl_cut (l : List UInt8) (a b : Nat) (h : b ≤ l.length) : (bl l).extract a b = bl ((l.take b).drop a) := by
  rw [← bl_self ((bl l).extract a b)]
  congr 1
  have : ((bl l).extract a b).data.toList = ((bl l).data.extract a b).toList := by
    rw [ByteArray.data_extract]
  rw [this]
  simp [bl, List.extract_eq_take_drop, List.drop_take]
theorem bl_app (a b : List UInt8) : bl a ++ bl b = bl (a ++ b) := by
  rw [← bl_self (bl a ++ bl b)]
  congr 1
def hdB (c : ByteArray) : UInt8 := c.data.toList.getD 0 0
theorem one_eq {c : ByteArray} (h : Nat.beq c.size 1 = true) : c = ⟨#[hdB c]⟩ := by
  have h := Nat.eq_of_beq_eq_true h
  obtain ⟨⟨l⟩⟩ := c
  match l, h with
  | [x], _ => rfl
def isB (c : ByteArray) (b : Nat) : Bool := beqN (natsOf c) [b]
theorem isB_eq {c : ByteArray} {b : UInt8} (h : isB c b.toNat = true) : c = ⟨#[b]⟩ := natsOf_inj (beqN_eq h)
theorem wrap1 {i : Nat} (h : i ≤ 1000000) : IntKind.i64.wrap ((i : Int) + 1) = ((i + 1 : Nat) : Int) := by rw [wrap_id _ (by omega) (by omega)]; rfl
noncomputable def spIx (f : FuncId) (args : Array Value) (h : AH) : Option (Bool × Value × AH) :=
  cond (Nat.beq f 151) (match args with
    | ⟨[.string s, .string c]⟩ => some (Nat.beq c.size 1, .int .i64 (Lib.indexByte s.data.toList (hdB c)), h)
    | _ => none) none
theorem spIx_ok : SpOK spIx := by
  intro f args h v h' hs
  unfold spIx at hs
  obtain ⟨hf, hs2⟩ := cond_some hs
  clear hs
  have := Nat.eq_of_beq_eq_true hf
  subst this
  split at hs2
  · injection hs2 with hs
    injection hs with hb hs
    injection hs with hv hh
    subst hv hh
    rename_i s c
    rw [one_eq hb]
    exact ⟨flat_call (args := [.string s, .string ⟨#[hdB c]⟩]) rfl rfl fun w => (Tryz.strings_Index_one s (hdB c) w).mono fun e w' ⟨h1, h2⟩ => ⟨h1, h2 ▸ Below.refl _ _⟩, Nat.le_refl _⟩
  · cases hs2
noncomputable def spCn (f : FuncId) (args : Array Value) (h : AH) : Option (Bool × Value × AH) :=
  cond (Nat.beq f 154) (match args with
    | ⟨[.string s, .string c]⟩ => some (Nat.beq c.size 1, .int .i64 (Lib.countByte s.data.toList (hdB c)), h)
    | _ => none) none
theorem spCn_ok : SpOK spCn := by
  intro f args h v h' hs
  unfold spCn at hs
  obtain ⟨hf, hs2⟩ := cond_some hs
  clear hs
  have := Nat.eq_of_beq_eq_true hf
  subst this
  split at hs2
  · injection hs2 with hs
    injection hs with hb hs
    injection hs with hv hh
    subst hv hh
    rename_i s c
    rw [one_eq hb]
    exact ⟨flat_call (args := [.string s, .string ⟨#[hdB c]⟩]) rfl rfl fun w => (Tryz.strings_Count_one s (hdB c) w).mono fun e w' ⟨h1, h2⟩ => ⟨h1, h2 ▸ Below.refl _ _⟩, Nat.le_refl _⟩
  · cases hs2

/-! Join of a row -/
def strsOf (xs : List Value) : List ByteArray := xs.map toStr
theorem strs_map : ∀ {xs : List Value}, xs.all isStr = true → xs = (strsOf xs).map Value.string
  | [], _ => rfl
  | x :: l, h => by
    simp only [List.all_cons, Bool.and_eq_true] at h
    have h1 : x = .string (toStr x) := by cases x <;> first | rfl | cases h.1
    have h2 := strs_map h.2
    show x :: l = .string (toStr x) :: (strsOf l).map Value.string
    rw [← h2, ← h1]
def lenJ (xs : List Value) (sep : ByteArray) : Bool := Nat.ble (Lib.join ((strsOf xs).map (·.data.toList)) sep.data.toList).length 100000
noncomputable def spJr (f : FuncId) (args : Array Value) (h : AH) : Option (Bool × Value × AH) :=
  cond (Nat.beq f 80) (match args with
    | ⟨[.slice (some ⟨b, 0, none⟩) n c, .string sep]⟩ => match h.get b with
      | some (.cells ⟨xs⟩ t (0, 0)) => some (xs.all isStr && Nat.beq xs.length n && Nat.blt 0 n && Nat.ble n c && Nat.ble n 1000 && lenJ xs sep, .string (bl (Lib.join ((strsOf xs).map (·.data.toList)) sep.data.toList)), h)
      | _ => none
    | _ => none) none
theorem spJr_ok : SpOK spJr := by
  intro f args h v h' hs
  unfold spJr at hs
  obtain ⟨hf, hs2⟩ := cond_some hs
  clear hs
  have := Nat.eq_of_beq_eq_true hf
  subst this
  split at hs2
  · rename_i b n c sep
    split at hs2
    · rename_i xs t hg
      injection hs2 with hs
      injection hs with hb hs
      injection hs with hv hh
      subst hv hh
      simp only [Bool.and_eq_true] at hb
      obtain ⟨⟨⟨⟨⟨b1, b2⟩, b3⟩, b4⟩, b5⟩, b6⟩ := hb
      have b2 := Nat.eq_of_beq_eq_true b2
      have b3 : 1 ≤ n := Nat.le_of_ble_eq_true b3
      have b4 := Nat.le_of_ble_eq_true b4
      have b5 := Nat.le_of_ble_eq_true b5
      unfold lenJ at b6
      have b6 := Nat.le_of_ble_eq_true b6
      have hlen : (strsOf xs).length = xs.length := List.length_map _
      have := join_row (P := Tryz.prog) (f := 80) (fun bk o c xs sep w => Tryz.strings_Join bk o c xs sep w) (xs := strsOf xs) (sep := sep) (H := h) (b := b) (c := c) (t := t) (by rw [← strs_map b1]; exact hg) (by
        intro e
        rw [e] at hlen
        simp at hlen
        omega) (by omega) (by omega) (by omega)
      rw [hlen, b2] at this
      exact ⟨this, Nat.le_refl _⟩
    · cases hs2
  · cases hs2

/-! genSplit -/
noncomputable def SB2 : SC := ⟨idn, spOr spIx spCn, true, true⟩
theorem SB2_ok : SB2.cfg.OK Tryz.prog := (spIx_ok.or spCn_ok).cfg
def gH (cs : List Value) : AH := ⟨1, 1, [(0, .cells ⟨cs⟩ 9 (0, 0))]⟩
def ixS (c : UInt8) (s : ByteArray) : Int := Lib.indexByte s.data.toList c
theorem gsr (c : UInt8) (s : ByteArray) (n i : Int) (m : Nat) (cs : List Value) (B : List Value → AH → Prop) (Q : AExit → List Value → AH → Prop) :
    once 0 Tryz.prog SB2 [] noHooks 600 66 [0, 1, 2, 3, 10, 9] [0] [0, 10, 9] [0] (oneLoop (codeOf Tryz.f112) 11) [.string s, .string ⟨#[c]⟩, .int .i64 0, .int .i64 n, .int .i64 i, .slice (some ⟨0, 0, none⟩) m m] (gH cs) B Q =
      bif decide (i < n) then bif decide (ixS c s < 0) then NoNames (.cells ⟨cs⟩ 9 (0, 0)) ∧ Q (.exit 0) [.string s, .int .i64 i, .slice (some ⟨0, 0, none⟩) m m] (gH cs) else
        bif decide (0 ≤ IntKind.i64.wrap (ixS c s + 0)) && decide (IntKind.i64.wrap (ixS c s + 0) ≤ (s.size : Int)) then bif decide (0 ≤ i) && decide (i < (m : Int)) then bif (0 + i.toNat * 1 + 1).ble (Array.mk cs).size && true && true then
        bif decide (0 ≤ IntKind.i64.wrap (ixS c s + 1)) && decide (IntKind.i64.wrap (ixS c s + 1) ≤ (s.size : Int)) && decide ((s.size : Int) ≤ (s.size : Int)) then
          NoNames (.cells (putAll ⟨cs⟩ (0 + i.toNat * 1) [.string (s.extract 0 (IntKind.i64.wrap (ixS c s + 0)).toNat)]) 9 (0, 0)) ∧
          B [.string (s.extract (IntKind.i64.wrap (ixS c s + 1)).toNat s.size), .string ⟨#[c]⟩, .int .i64 0, .int .i64 n, .int .i64 (IntKind.i64.wrap (i + 1)), .slice (some ⟨0, 0, none⟩) m m] ⟨1, 1, [(0, .cells (putAll ⟨cs⟩ (0 + i.toNat * 1) [.string (s.extract 0 (IntKind.i64.wrap (ixS c s + 0)).toNat)]) 9 (0, 0))]⟩
        else False else False else False else False
      else NoNames (.cells ⟨cs⟩ 9 (0, 0)) ∧ Q (.exit 0) [.string s, .int .i64 i, .slice (some ⟨0, 0, none⟩) m m] (gH cs) := by kernel_rfl
theorem nnS (D : List (List UInt8)) (t : TypeId) (fr : Nat × Nat) : NoNames (.cells ⟨D.map strV⟩ t fr) := by
  intro v hv
  obtain ⟨d, _, rfl⟩ := List.mem_map.1 (show v ∈ D.map strV from hv)
  rfl
theorem put_one {D : List (List UInt8)} {i : Nat} (q : List UInt8) (hi : i < D.length) : putAll ⟨D.map strV⟩ (0 + (i : Int).toNat * 1) [strV q] = ⟨(D.set i q).map strV⟩ := by
  rw [putAll_eq _ _ _ (by show 0 + (i : Int).toNat * 1 + 1 ≤ (D.map strV).length; rw [List.length_map]; omega)]
  show (⟨(D.map strV).take (0 + i * 1) ++ [strV q] ++ (D.map strV).drop (0 + i * 1 + 1)⟩ : Array Value) = _
  rw [Nat.zero_add, Nat.mul_one, List.map_set, List.set_eq_take_append_cons_drop, if_pos (by rw [List.length_map]; exact hi)]
  simp
theorem gs_loop {c : UInt8} {n : Nat} (hn : n ≤ 1000) : ∀ (r : List (List UInt8)) (q : List UInt8) (i : Nat) (D : List (List UInt8)), c ∉ q → (∀ p ∈ r, c ∉ p) → i + r.length = n → D.length = n + 1 → (body c q r).length ≤ 100000 →
    ∃ (D' : List (List UInt8)) (q2 : List UInt8), D'.length = n + 1 ∧ D'.take n ++ [q2] = D.take i ++ q :: r ∧ ∀ K : AExit → List Value → AH → Prop,
      K (.exit 0) [strV q2, .int .i64 (n : Int), .slice (some ⟨0, 0, none⟩) (n + 1) (n + 1)] (gH (D'.map strV)) →
      iter 0 Tryz.prog SB2 [] noHooks 600 66 [0, 1, 2, 3, 10, 9] [0] [0, 10, 9] [0] (oneLoop (codeOf Tryz.f112) 11) (r.length + 1) [.string (bl (body c q r)), .string ⟨#[c]⟩, .int .i64 0, .int .i64 (n : Int), .int .i64 (i : Int), .slice (some ⟨0, 0, none⟩) (n + 1) (n + 1)] (gH (D.map strV)) K
  | [], q, i, D, h1, h2, h3, h4, h5 => by
    have hi : i = n := by simpa using h3
    subst hi
    refine ⟨D, q, h4, rfl, fun K hK => ?_⟩
    rw [body_nil]
    exact (gsr _ _ _ _ _ _ _ K).mpr (pick_f (by simp) ⟨nnS D _ _, hK⟩)
  | p :: r, q, i, D, h1, h2, h3, h4, h5 => by
    have hb := body_cons c q p r
    have hlen : (body c q (p :: r)).length = q.length + 1 + (body c p r).length := by rw [hb]; simp; omega
    have h3' : i + 1 + r.length = n := by rw [List.length_cons] at h3; omega
    obtain ⟨D', q2, y1, y2, y3⟩ := gs_loop hn r p (i + 1) (D.set i q) (h2 p (by simp)) (fun x hx => h2 x (by simp [hx])) h3' (by rw [List.length_set, h4]) (by omega)
    have hset : (D.set i q).take (i + 1) = D.take i ++ [q] := by
      rw [List.take_add_one, List.getElem?_set_self (by omega), List.take_set_of_le (Nat.le_refl _)]
      rfl
    refine ⟨D', q2, y1, by rw [y2, hset]; simp, fun K hK => ?_⟩
    have hix : ixS c (bl (body c q (p :: r))) = (q.length : Int) := by
      unfold ixS
      rw [bl_list, hb]
      exact idx_at _ h1
    have hsz := bl_size (body c q (p :: r))
    have w0 : IntKind.i64.wrap ((q.length : Int) + 0) = (q.length : Int) := by rw [Int.add_zero]; exact wrap_id _ (by omega) (by omega)
    have w1 : IntKind.i64.wrap ((q.length : Int) + 1) = ((q.length + 1 : Nat) : Int) := wrap1 (by omega)
    have c1 : (bl (body c q (p :: r))).extract 0 (q.length : Int).toNat = bl q := by
      show (bl (body c q (p :: r))).extract 0 q.length = _
      rw [bl_cut _ _ _ (by omega), hb]
      simp
    have c2 : (bl (body c q (p :: r))).extract ((q.length + 1 : Nat) : Int).toNat (bl (body c q (p :: r))).size = bl (body c p r) := by
      show (bl (body c q (p :: r))).extract (q.length + 1) (bl (body c q (p :: r))).size = _
      rw [hsz, bl_cut _ _ _ (Nat.le_refl _), List.take_length, hb]
      congr 1
      rw [List.drop_append, List.drop_of_length_le (by omega), List.nil_append, Nat.add_sub_cancel_left]
      rfl
    refine (gsr _ _ _ _ _ _ _ K).mpr ?_
    rw [hix, w0, w1, c1, c2]
    refine pick_t (decide_eq_true (by omega)) (pick_f (decide_eq_false (by omega)) (need_mk (by simp; omega) (need_mk (by simp; omega) (need_mk ?_ (need_mk (by simp; omega) ?_)))))
    · have : (0 + (i : Int).toNat * 1 + 1).ble (Array.mk (D.map strV)).size = true := by
        rw [Nat.ble_eq]
        show 0 + (i : Int).toNat * 1 + 1 ≤ (D.map strV).length
        rw [List.length_map]; omega
      rw [this]; rfl
    · have hp := put_one (D := D) (i := i) q (by omega)
      have hp : putAll ⟨D.map strV⟩ (0 + (i : Int).toNat * 1) [.string (bl q)] = ⟨(D.set i q).map strV⟩ := hp
      rw [hp, wrap1 (by omega)]
      exact ⟨nnS _ _ _, y3 K hK⟩
def sC : Array Value := #[.string ⟨#[]⟩]
noncomputable def nS (c : UInt8) (s : ByteArray) : Int := if IntKind.i64.wrap ((s.size : Int) + 1) < IntKind.i64.wrap ((Lib.countByte s.data.toList c : Int) + 1) then IntKind.i64.wrap ((s.size : Int) + 1) else IntKind.i64.wrap ((Lib.countByte s.data.toList c : Int) + 1)
noncomputable def gsE (s2 : ByteArray) (cs : List Value) (k m : Nat) (Q : Value → AH → Prop) : Prop :=
  bif decide ((k : Int) < (m : Int)) then bif (0 + k * 1 + 1).ble (Array.mk cs).size && true && true then bif decide (0 ≤ IntKind.i64.wrap ((k : Int) + 1)) && decide (IntKind.i64.wrap ((k : Int) + 1) ≤ (m : Int)) then
    bif Nat.beq 0 m then Q (.slice (some ⟨0, 0, none⟩) ((IntKind.i64.wrap ((k : Int) + 1)).toNat - 0) (m - 0)) ⟨1, 0, [(0, .cells (putAll ⟨cs⟩ (0 + k * 1) [.string s2]) 9 (1, 1))]⟩
    else Q (.slice (some ⟨0, 0, none⟩) ((IntKind.i64.wrap ((k : Int) + 1)).toNat - 0) (m - 0)) ⟨1, 0, [(0, .cells (putAll ⟨cs⟩ (0 + k * 1) [.string s2]) 9 (1, 1))]⟩
  else False else False else False
theorem gsf (c : UInt8) (s s2 : ByteArray) (m k : Nat) (cs : List Value) (C : List Value → AH → Prop) (Q : Value → AH → Prop) :
    tfn Tryz.prog SB2 [] (hook1 11 (thenLS (hookLS 0 66 [0, 1, 2, 3, 10, 9] [0] [0, 10, 9] (fun vals h K => C vals h ∧ K (.exit 0) [.string s2, .int .i64 (k : Int), .slice (some ⟨0, 0, none⟩) m m] (gH cs))) (markG 9))) 600 [] Tryz.f112 [.string s, .string ⟨#[c]⟩, .int .i64 0, .int .i64 (-1)] h0 Q =
      bif decide (0 ≤ nS c s) && decide (nS c s ≤ nS c s) && decide (nS c s ≤ 9223372036854775807) && ((nS c s).toNat * 16).ble 140737488355328 && (((nS c s).toNat * 1).beq 0 || true) then
        NoNames (.cells ⟨zlist sC ((nS c s).toNat * 1)⟩ 9 (0, 0)) ∧ C [.string s, .string ⟨#[c]⟩, .int .i64 0, .int .i64 (IntKind.i64.wrap (nS c s - 1)), .int .i64 0, .slice (some ⟨0, 0, none⟩) (nS c s).toNat (nS c s).toNat] (gH (zlist sC ((nS c s).toNat * 1))) ∧ gsE s2 cs k m Q
      else False := by kernel_rfl
theorem zl_rep (n : Nat) : zlist sC n = (List.replicate n ([] : List UInt8)).map strV := by
  have e : (fun i => sC[i % sC.size]?.getD undef) = fun _ : Nat => strV [] := by
    funext i
    have : i % sC.size = 0 := Nat.mod_one i
    rw [this]
    rfl
  show (List.range n).map (fun i => sC[i % sC.size]?.getD undef) = _
  rw [e, List.map_const', List.length_range, List.map_replicate]
theorem oneGS : (loopAt (codeOf Tryz.f112) 11).length = 1 := by kernel_rfl
theorem someGS : Tryz.f112.body.isSome = true := by kernel_rfl
theorem strV_map (D : List (List UInt8)) : (D.map bl).map Value.string = D.map strV := by rw [List.map_map]; rfl
theorem freezeS {p : Nat} {P : Program} {h : AH} {b : Nat} {t : TypeId} {fr : Nat × Nat} (D : List (List UInt8)) {m : Nat} (hm : D.length = m) (hb : h.get b = some (.cells ⟨D.map strV⟩ t fr)) :
    Weak p P #[.slice (some ⟨b, 0, none⟩) m m] h #[fz ⟨D.map strV⟩] (h.del b) := by
  have := freeze1 (p := p) (P := P) (h := h) (b := b) (t := t) (fr := fr) (D.map bl) (m := m) (by rw [List.length_map, hm]) (by rw [strV_map]; exact hb)
  rw [strV_map] at this
  exact this
/-- What genSplit hands back, as a row of its own. -/
theorem gs_row {c : UInt8} {q : List UInt8} {r : List (List UInt8)} (h1 : c ∉ q) (h2 : ∀ p ∈ r, c ∉ p) (h3 : r.length ≤ 1000) (h4 : (body c q r).length ≤ 100000) :
    FnOK 0 Tryz.prog 112 ⟨[.string (bl (body c q r)), .string ⟨#[c]⟩, .int .i64 0, .int .i64 (-1)]⟩ h0 (fun v h => v = .slice (some ⟨0, 0, none⟩) (r.length + 1) (r.length + 1) ∧ h.get 0 = some (.cells ⟨(q :: r).map strV⟩ 9 (1, 1))) := by
  obtain ⟨D, q2, y1, y2, y3⟩ := gs_loop (n := r.length) h3 r q 0 (List.replicate (r.length + 1) []) h1 h2 (by omega) (by simp) h4
  have hcnt : (Lib.countByte (bl (body c q r)).data.toList c : Int) = (r.length : Int) := by rw [bl_list, count_body r q h1 h2]
  have hsz : (bl (body c q r)).size = (body c q r).length := bl_size _
  have hle : r.length ≤ (body c q r).length := by
    have := count_body r q h1 h2
    unfold Lib.countByte at this
    rw [← this]
    exact List.count_le_length
  have hn : nS c (bl (body c q r)) = ((r.length + 1 : Nat) : Int) := by
    unfold nS
    rw [hcnt, hsz, wrap1 (i := r.length) (by omega), wrap1 (i := (body c q r).length) (by omega)]
    split
    · omega
    · rfl
  have hz : zlist sC (((r.length + 1 : Nat) : Int).toNat * 1) = (List.replicate (r.length + 1) ([] : List UInt8)).map strV := by
    rw [Nat.mul_one]; exact zl_rep _
  have hw : IntKind.i64.wrap (((r.length + 1 : Nat) : Int) - 1) = (r.length : Int) := by rw [wrap_id _ (by omega) (by omega)]; omega
  have hsp : LSpec 0 Tryz.prog 66 (oneLoop (codeOf Tryz.f112) 11) (thenLS (hookLS 0 66 [0, 1, 2, 3, 10, 9] [0] [0, 10, 9] (fun vals h K => (vals = [.string (bl (body c q r)), .string ⟨#[c]⟩, .int .i64 0, .int .i64 (r.length : Int), .int .i64 0, .slice (some ⟨0, 0, none⟩) (r.length + 1) (r.length + 1)] ∧ h = gH ((List.replicate (r.length + 1) ([] : List UInt8)).map strV)) ∧
      K (.exit 0) [.string (bl q2), .int .i64 (r.length : Int), .slice (some ⟨0, 0, none⟩) (r.length + 1) (r.length + 1)] (gH (D.map strV)))) (markG 9)) := by
    refine thenLS_ok (hook_ok (G := []) (L := noHooks) (f := 600) (sameX := [0]) SB2_ok mixed (by decide) (loops_none _ _ _ _) ?_) (markG_ok _ _ _ _)
    rintro vals h K ⟨⟨rfl, rfl⟩, hK⟩
    exact ⟨_, y3 K hK⟩
  refine FnOK.ttree SB2_ok mixed Tryz.func112 someGS (loops_one oneGS hsp) (gsf c (bl (body c q r)) (bl q2) (r.length + 1) r.length (D.map strV) _ _) ?_
  rw [hn, hz, hw]
  refine need_mk ?_ ⟨nnS _ _ _, ⟨rfl, rfl⟩, ?_⟩
  · simp only [Bool.and_eq_true, decide_eq_true_eq, Nat.ble_eq, Bool.or_true]
    refine ⟨⟨⟨⟨?_, ?_⟩, ?_⟩, ?_⟩, trivial⟩ <;> omega
  · have w2 := wrap1 (i := r.length) (by omega)
    unfold gsE
    rw [w2]
    have hpo := put_one (D := D) (i := r.length) q2 (by omega)
    have hpo : putAll ⟨D.map strV⟩ (0 + r.length * 1) [.string (bl q2)] = ⟨(D.set r.length q2).map strV⟩ := hpo
    rw [hpo]
    have hD : D.set r.length q2 = q :: r := by
      rw [List.set_eq_take_append_cons_drop, if_pos (by omega), List.drop_of_length_le (by omega), y2]
      simp
    rw [hD]
    refine need_mk (decide_eq_true (by omega)) (need_mk ?_ (need_mk (by simp; omega) ?_))
    · have : (0 + r.length * 1 + 1).ble (Array.mk (D.map strV)).size = true := by
        rw [Nat.ble_eq]
        show 0 + r.length * 1 + 1 ≤ (D.map strV).length
        rw [List.length_map]; omega
      rw [this]; rfl
    · cases Nat.beq 0 (r.length + 1) <;> exact ⟨rfl, rfl⟩
theorem gs_fn {c : UInt8} {q : List UInt8} {r : List (List UInt8)} (h1 : c ∉ q) (h2 : ∀ p ∈ r, c ∉ p) (h3 : r.length ≤ 1000) (h4 : (body c q r).length ≤ 100000) :
    FnOK 0 Tryz.prog 112 ⟨[.string (bl (body c q r)), .string ⟨#[c]⟩, .int .i64 0, .int .i64 (-1)]⟩ h0 (fun v _ => v = fz ⟨(q :: r).map strV⟩) := by
  refine FnOK.weak1 ((gs_row h1 h2 h3 h4).mono ?_)
  rintro v g ⟨rfl, hg⟩
  exact ⟨_, _, freezeS (h := g) (b := 0) (q :: r) (by simp) hg, rfl⟩
theorem spl_len (c : UInt8) : ∀ l : List UInt8, (spl c l).length ≤ l.length + 1
  | [] => by simp [spl]
  | x :: l => by
    have := spl_len c l
    unfold spl
    split
    · simp; omega
    · split
      · simp
      · rename_i q r hq; rw [hq] at this; simp at this ⊢; omega
theorem sp_fn (c : UInt8) (l : List UInt8) (h : l.length ≤ 1000) : FnOK 0 Tryz.prog 112 ⟨[.string (bl l), .string ⟨#[c]⟩, .int .i64 0, .int .i64 (-1)]⟩ h0 (fun v _ => v = fz ⟨(spl c l).map strV⟩) := by
  obtain ⟨q, r, h1, h2, h3⟩ := split_ex c l
  have e := spl_body c l q r h2 h3 h1
  have hl := spl_len c l
  rw [e] at hl ⊢
  simp only [List.length_cons] at hl
  rw [h1] at h ⊢
  exact gs_fn h2 h3 (by rw [← h1] at h; omega) (by omega)
noncomputable def spGs (f : FuncId) (args : Array Value) (h : AH) : Option (Bool × Value × AH) :=
  cond (Nat.beq f 112) (match args with
    | ⟨[.string s, .string c, .int .i64 0, .int .i64 (-1)]⟩ => some (Nat.beq c.size 1 && Nat.ble s.size 1000, fz ⟨(spl (hdB c) s.data.toList).map strV⟩, h)
    | _ => none) none
theorem spGs_ok : SpOK spGs := by
  intro f args h v h' hs
  unfold spGs at hs
  obtain ⟨hf, hs2⟩ := cond_some hs
  clear hs
  have := Nat.eq_of_beq_eq_true hf
  subst this
  split at hs2
  · injection hs2 with hs
    injection hs with hb hs
    injection hs with hv hh
    subst hv hh
    rename_i s c
    rw [Bool.and_eq_true] at hb
    have h1 := one_eq hb.1
    have h2 := Nat.le_of_ble_eq_true hb.2
    rw [h1]
    have := sp_fn (hdB c) s.data.toList (by have : s.size = s.data.toList.length := by rw [← bl_size, bl_self]
                                            omega)
    rw [bl_self] at this
    exact ⟨FnOK.pure this rfl rfl h, Nat.le_refl _⟩
  · cases hs2
noncomputable def spCa (f : FuncId) (args : Array Value) (h : AH) : Option (Bool × Value × AH) :=
  cond (Nat.beq f 108) (match args with
    | ⟨[.string s, .string c]⟩ => some (Nat.ble s.size 100000 && Nat.ble c.size 100 && s.data.toList.all (fun b => decide (b.toNat < 128)) && c.data.toList.all (fun b => decide (b.toNat < 128)), .bool (Lib.containsAny s.data.toList c.data.toList), h)
    | _ => none) none
theorem spCa_ok : SpOK spCa := by
  intro f args h v h' hs
  unfold spCa at hs
  obtain ⟨hf, hs2⟩ := cond_some hs
  clear hs
  have := Nat.eq_of_beq_eq_true hf
  subst this
  split at hs2
  · injection hs2 with hs
    injection hs with hb hs
    injection hs with hv hh
    subst hv hh
    rename_i s c
    simp only [Bool.and_eq_true, Nat.ble_eq, List.all_eq_true, decide_eq_true_eq] at hb
    obtain ⟨⟨⟨b1, b2⟩, b3⟩, b4⟩ := hb
    exact ⟨flat_call (args := [.string s, .string c]) rfl rfl fun w => (Tryz.strings_ContainsAny_laid s c w (by omega) (by omega) (fun j b hj => b3 b (List.mem_of_getElem? hj)) (fun j b hj => b4 b (List.mem_of_getElem? hj))), Nat.le_refl _⟩
  · cases hs2
end Go.Proofs.YtjphemllikflpaaGreatDoor
