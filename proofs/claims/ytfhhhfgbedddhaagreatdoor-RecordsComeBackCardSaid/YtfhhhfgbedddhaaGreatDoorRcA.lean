/-
  Records as lines: strings that are joined and taken apart; numbers as they are written and read.
-/
import Derived.Test.YtfhhhfgbedddhaaGreatDoorBase
import Derived.Test.YtfhhhfgbedddhaaGreatDoorRcS
import Derived.Below
import Derived.Lib.Bytealg
import Derived.Lib.Join
import Derived.Lib.ItoaNum
import Derived.Lib.Atoi
import Derived.Lib.AtoiErrMem
namespace Go.Ev
open Go.RowKit
/-- The row of a slice gets the mark 1. -/
noncomputable def markG (s : Nat) : LS := fun t h K => match t.get s with
  | .slice (some ⟨b, 0, none⟩) _ _ => match h.get b with
    | some (.cells c ty (0, 0)) => K .normal t (h.set b (.cells c ty (1, 1)))
    | _ => False
  | _ => False
theorem markG_ok (p : Nat) (P : Program) (m s : Nat) : GSpec p P m (markG s) := by
  intro t τ h K hr hs
  unfold markG at hs
  split at hs
  · split at hs
    · rename_i c ty hg
      exact ⟨t, τ, _, Weak.mark 0 1 hg, hr, hs⟩
    · exact hs.elim
  · exact hs.elim
noncomputable def thenLS (ls g : LS) : LS := fun t h K => ls t h fun e t' h' => match e with
  | .exit i => g t' h' fun _ t2 h2 => K (.exit i) t2 h2
  | e => K e t' h'
theorem thenLS_ok {p : Nat} {P : Program} {m : Nat} {b : Code} {ls g : LS} (hl : LSpec p P m b ls) (hg : GSpec p P m g) : LSpec p P m b (thenLS ls g) := by
  intro t τ h K hr hs
  refine Tri.post ((hl t τ h _ hr hs).mono ?_)
  rintro e τ' h' ⟨t', hr', hq⟩
  cases e with
  | exit i =>
    obtain ⟨t2, τ2, h2, hW, hr2, hq2⟩ := hg t' τ' h' _ hr' hq
    exact ⟨τ2, h2, hW, t2, hr2, hq2⟩
  | normal => exact ⟨τ', h', Weak.refl _ _ _ _, t', hr', hq⟩
  | ret => exact ⟨τ', h', Weak.refl _ _ _ _, t', hr', hq⟩
/-- A function of one string, with a number and no error, as the library tells it. -/
theorem numErr_call {P : Program} {f : FuncId} {s : ByteArray} {n : Int} {H : AH} (h : ∀ w, Calls P f #[.string s] w fun e w' => e = .returned (.tuple #[.int .i64 n, .nilIface]) ∧ Below w.heap.size w w') : CallOK P f ⟨[.string s]⟩ H (.tuple ⟨[.int .i64 n, .nilIface]⟩) H := by
  intro N w args' ha hr _
  rw [flat_args (args := [.string s]) rfl ha]
  refine (h w).mono ?_
  rintro e w' ⟨rfl, hb⟩
  refine ⟨N, _, rfl, .tuple _ _ rfl fun i v v' a b => ?_, ext_below hr hb⟩
  match i with
  | 0 => simp at a b; subst a b; exact .int _ _
  | 1 => simp at a b; subst a b; exact .nilIface
  | i + 2 => simp at a
/-- Join of a row in the heap. -/
theorem join_row {P : Program} {f : FuncId} (h : JoinSaid P f) {xs : List ByteArray} {sep : ByteArray} {H : AH} {b c : Nat} {t : TypeId} (hb : H.get b = some (.cells ⟨xs.map Value.string⟩ t (0, 0))) (hx : xs ≠ []) (hc : xs.length ≤ c) (hl : xs.length ≤ 1000000)
    (hj : (Lib.join (xs.map (·.data.toList)) sep.data.toList).length ≤ 140737488355328) :
    CallOK P f ⟨[.slice (some ⟨b, 0, none⟩) xs.length c, .string sep]⟩ H (.string ⟨(Lib.join (xs.map (·.data.toList)) sep.data.toList).toArray⟩) H := by
  intro N w args' ha hr _
  obtain ⟨u0, v0, rfl, hu, hv⟩ := two_args ha
  rw [hv.inv_string]
  obtain ⟨e, o', he, hw, c', fr', rfl, h2, h3, h4, h5, h6, h7⟩ := hr.here b _ hb
  obtain ⟨f2, o1, c1, hsp, hfb, hcc, hzz, hoo, rfl⟩ := hu.inv_slice
  simp only at hfb hoo hcc
  have hfb : N b = some f2 := hfb
  rw [he] at hfb
  cases hfb
  have hp : 0 < xs.length := List.length_pos_iff.2 hx
  have ho1 : o1 = e.d := by rcases hoo with ⟨q1, _⟩ | q1 <;> omega
  subst ho1
  refine (h e.r e.d c1 xs sep w ?_ (lt_of_some hw) (by omega) (by omega) hj).mono ?_
  · intro j x hj
    have hjx : (Array.mk (xs.map Value.string))[j]? = some (.string x) := by
      have : (xs.map Value.string)[j]? = some (.string x) := by rw [List.getElem?_map, hj]; rfl
      simpa using this
    obtain ⟨x', q1, q2⟩ := h6 j _ hjx
    rw [q2.inv_string] at q1
    rw [cell_eq hw]
    exact q1
  · rintro en w' ⟨rfl, hb2⟩
    exact ⟨N, _, rfl, .string _, ext_below hr hb2⟩
end Go.Ev
/-! Plain laws for RecordsComeBack: digits; joined parts and their one reading; records as lines. -/
namespace RecLaw
open Go.Lib
/-! Digits -/
theorem dig_nat {d : Nat} (h : d < 10) : (UInt8.ofNat (48 + d)).toNat = 48 + d := by
  rw [UInt8.toNat_ofNat']
  exact Nat.mod_eq_of_lt (by omega)
theorem dd_digits (u : Nat) : ∀ b ∈ decDigits u, 48 ≤ b.toNat ∧ b.toNat ≤ 57 := by
  induction u using Nat.strongRecOn with
  | _ u ih =>
    intro b hb
    rw [decDigits] at hb
    split at hb
    · simp only [List.mem_singleton] at hb
      subst hb
      rw [dig_nat (by omega)]
      omega
    · rcases List.mem_append.1 hb with hb | hb
      · exact ih (u / 10) (by omega) b hb
      · simp only [List.mem_singleton] at hb
        subst hb
        rw [dig_nat (by omega)]
        omega
theorem dd_ne (u : Nat) : decDigits u ≠ [] := by
  rw [decDigits]
  split <;> simp
theorem dd_head (u : Nat) (h : 1 ≤ u) : (decDigits u).head? ≠ some 48 := by
  induction u using Nat.strongRecOn with
  | _ u ih =>
    rw [decDigits]
    split
    · simp only [List.head?_cons, ne_eq, Option.some.injEq]
      intro e
      have := congrArg UInt8.toNat e
      rw [dig_nat (by omega)] at this
      have h48 : (48 : UInt8).toNat = 48 := rfl
      omega
    · rw [List.head?_append]
      have := ih (u / 10) (by omega) (by omega)
      cases hq : decDigits (u / 10) with
      | nil => exact absurd hq (dd_ne _)
      | cons b r => rw [hq] at this; simpa using this
theorem dd_len (k : Nat) : ∀ u, u < 10 ^ (k + 1) → (decDigits u).length ≤ k + 1 := by
  induction k with
  | zero => intro u h; rw [decDigits, dif_pos (by omega)]; simp
  | succ k ih =>
    intro u h
    rw [decDigits]
    split
    · simp
    · have := ih (u / 10) (by rw [Nat.pow_succ] at h; omega)
      simp
      omega
theorem decFrom_app : ∀ (l m : List UInt8) (a b : Nat), decFrom a l = some b → decFrom a (l ++ m) = decFrom b m
  | [], m, a, b, h => by simp [decFrom] at h; subst h; rfl
  | x :: l, m, a, b, h => by
    simp only [decFrom, List.cons_append] at h ⊢
    cases hx : digitVal x with
    | none => simp [hx] at h
    | some d => simp only [hx] at h ⊢; exact decFrom_app l m _ b h
theorem digitVal_of {d : Nat} (h : d < 10) : digitVal (UInt8.ofNat (48 + d)) = some d := by
  unfold digitVal
  rw [dig_nat h, if_pos (by omega)]
  congr 1
  omega
theorem dd_dec (u : Nat) : decFrom 0 (decDigits u) = some u := by
  induction u using Nat.strongRecOn with
  | _ u ih =>
    rw [decDigits]
    split
    · rename_i h
      unfold decFrom decFrom
      rw [digitVal_of h]
      simp
    · rw [decFrom_app _ _ _ _ (ih (u / 10) (by omega))]
      simp only [decFrom, digitVal_of (by omega : u % 10 < 10)]
      congr 1
      omega
theorem dd_atoi (u : Nat) : atoi (decDigits u) = some (u : Int) := by
  have h1 := dd_dec u
  have h2 := dd_digits u
  cases hq : decDigits u with
  | nil => exact absurd hq (dd_ne u)
  | cons b r =>
    rw [hq] at h1 h2
    have hb := h2 b (by simp)
    have n1 : (b == 45) = false := beq_eq_false_iff_ne.2 fun e => by subst e; exact absurd hb.1 (by decide)
    have n2 : (b == 43) = false := beq_eq_false_iff_ne.2 fun e => by subst e; exact absurd hb.1 (by decide)
    unfold atoi decNat
    simp [n1, n2, h1]
theorem dd_inj {u v : Nat} (h : decDigits u = decDigits v) : u = v := by
  have h1 := dd_dec u
  rw [h, dd_dec v] at h1
  exact (Option.some.inj h1).symm
theorem dd_free {c : UInt8} (hc : c.toNat < 48) (u : Nat) : c ∉ decDigits u := fun h => by
  have := dd_digits u c h
  omega
/-! Parts that are joined -/
theorem idx_none {c : UInt8} : ∀ {q : List UInt8}, c ∉ q → indexByte q c = -1
  | [], _ => rfl
  | b :: l, h => by
    have h1 : (b == c) = false := beq_eq_false_iff_ne.2 fun e => h (by rw [e]; simp)
    have h2 := idx_none (q := l) fun e => h (List.mem_cons_of_mem _ e)
    unfold indexByte
    rw [h1, h2]
    rfl
theorem idx_at {c : UInt8} : ∀ {q : List UInt8} (s : List UInt8), c ∉ q → indexByte (q ++ c :: s) c = (q.length : Int)
  | [], s, _ => by
    show indexByte (c :: s) c = _
    unfold indexByte
    simp
  | b :: l, s, h => by
    have h1 : (b == c) = false := beq_eq_false_iff_ne.2 fun e => h (by rw [e]; simp)
    have h2 := idx_at (q := l) s fun e => h (List.mem_cons_of_mem _ e)
    show indexByte (b :: (l ++ c :: s)) c = _
    unfold indexByte
    rw [h1, h2]
    have h3 : ((l.length : Int) == -1) = false := beq_eq_false_iff_ne.2 (by omega)
    rw [h3]
    simp
def tail (c : UInt8) (r : List (List UInt8)) : List UInt8 := r.flatMap fun p => c :: p
def body (c : UInt8) (q : List UInt8) (r : List (List UInt8)) : List UInt8 := q ++ tail c r
theorem body_nil (c : UInt8) (q : List UInt8) : body c q [] = q := by simp [body, tail]
theorem body_cons (c : UInt8) (q p : List UInt8) (r : List (List UInt8)) : body c q (p :: r) = q ++ c :: body c p r := by simp [body, tail]
theorem count_body {c : UInt8} : ∀ (r : List (List UInt8)) (q : List UInt8), c ∉ q → (∀ p ∈ r, c ∉ p) → countByte (body c q r) c = r.length
  | [], q, h, _ => by rw [body_nil]; exact List.count_eq_zero.2 h
  | p :: r, q, h, h2 => by
    have ih := count_body r p (h2 p (by simp)) (fun x hx => h2 x (by simp [hx]))
    rw [body_cons]
    unfold countByte at ih ⊢
    rw [List.count_append, List.count_cons_self, ih, List.count_eq_zero.2 h]
    simp
theorem cut_eq {c : UInt8} : ∀ {q q' s s' : List UInt8}, c ∉ q → c ∉ q' → q ++ c :: s = q' ++ c :: s' → q = q' ∧ s = s'
  | [], [], s, s', _, _, h => ⟨rfl, by simpa using h⟩
  | [], b :: l, s, s', _, h2, h => by
    simp only [List.nil_append, List.cons_append, List.cons.injEq] at h
    exact absurd h.1 (fun e => h2 (by simp [e]))
  | b :: l, [], s, s', h1, _, h => by
    simp only [List.nil_append, List.cons_append, List.cons.injEq] at h
    exact absurd h.1 (fun e => h1 (by simp [e]))
  | b :: l, b' :: l', s, s', h1, h2, h => by
    simp only [List.cons_append, List.cons.injEq] at h
    obtain ⟨e1, e2⟩ := cut_eq (q := l) (q' := l') (fun e => h1 (by simp [e])) (fun e => h2 (by simp [e])) h.2
    exact ⟨by rw [h.1, e1], e2⟩
theorem body_inj {c : UInt8} : ∀ {r r' : List (List UInt8)} {q q' : List UInt8}, c ∉ q → c ∉ q' → (∀ p ∈ r, c ∉ p) → (∀ p ∈ r', c ∉ p) → body c q r = body c q' r' → q = q' ∧ r = r'
  | [], [], q, q', _, _, _, _, h => by rw [body_nil, body_nil] at h; exact ⟨h, rfl⟩
  | [], p :: r, q, q', h1, _, _, _, h => by
    rw [body_nil, body_cons] at h
    exact absurd (by rw [h]; simp) h1
  | p :: r, [], q, q', _, h2, _, _, h => by
    rw [body_nil, body_cons] at h
    exact absurd (by rw [← h]; simp) h2
  | p :: r, p' :: r', q, q', h1, h2, h3, h4, h => by
    rw [body_cons, body_cons] at h
    obtain ⟨e1, e2⟩ := cut_eq h1 h2 h
    obtain ⟨e3, e4⟩ := body_inj (h3 p (by simp)) (h4 p' (by simp)) (fun x hx => h3 x (by simp [hx])) (fun x hx => h4 x (by simp [hx])) e2
    exact ⟨e1, by rw [e3, e4]⟩
theorem join_body (c : UInt8) (q : List UInt8) (r : List (List UInt8)) : join (q :: r) [c] = body c q r := by
  rw [join_cons]
  unfold body joinTail tail
  rw [List.flatMap_def]
  rfl
theorem body_len (c : UInt8) (k : Nat) : ∀ (r : List (List UInt8)) (q : List UInt8), q.length ≤ k → (∀ p ∈ r, p.length ≤ k) → (body c q r).length ≤ (r.length + 1) * (k + 1)
  | [], q, h, _ => by rw [body_nil]; simp; omega
  | p :: r, q, h, h2 => by
    have ih := body_len c k r p (h2 p (by simp)) (fun x hx => h2 x (by simp [hx]))
    rw [body_cons, List.length_append, List.length_cons, List.length_cons, Nat.succ_mul]
    omega
/-! Records -/
structure Rc where
  at_ : Int
  rt : List UInt8
  cl : List UInt8
  ac : List UInt8
  ins : List UInt8
  st : Int
  fd : Int
def allN : List (List UInt8) := [[], [114, 97], [114, 98], [122, 122], [97, 112, 112, 49], [97, 112, 112, 50], [111, 110, 101], [105, 97], [65], [45]]
def keyB (s : List UInt8) : Bool := !(s == []) && !(s == [65]) && !(s == [45])
def dashB (s : List UInt8) : List UInt8 := if keyB s then s else [45]
def fldB (s : List UInt8) : Bool := s == [] || keyB s
/-- Where the strings of a record come from. -/
def inN (r : Rc) : Prop := r.rt ∈ allN ∧ r.cl ∈ allN ∧ r.ac ∈ allN ∧ r.ins ∈ allN
def flds (r : Rc) : Bool := fldB r.rt && fldB r.cl && fldB r.ac && fldB r.ins
/-- A record that is right by itself. -/
def okE (r : Rc) : Prop := 0 ≤ r.at_ ∧ r.at_ ≤ 345686399999 ∧ flds r = true ∧ 100 ≤ r.st ∧ r.st ≤ 599 ∧ 0 ≤ r.fd ∧ r.fd ≤ 4
def Rd (r : Rc) : Prop := inN r ∧ okE r
def words (r : Rc) : List (List UInt8) := [dashB r.rt, dashB r.cl, dashB r.ac, dashB r.ins, decDigits r.st.toNat, decDigits r.fd.toNat]
def line (r : Rc) : List UInt8 := body 32 (decDigits r.at_.toNat) (words r)
def text (L : List Rc) : List UInt8 := L.flatMap fun r => line r ++ [10]
theorem dash_free : ∀ s ∈ allN, (10 : UInt8) ∉ dashB s ∧ (32 : UInt8) ∉ dashB s ∧ dashB s ≠ [] ∧ (dashB s).length ≤ 4 := by decide +kernel
theorem dash_inj : ∀ s ∈ allN, ∀ t ∈ allN, fldB s = true → fldB t = true → dashB s = dashB t → s = t := by decide +kernel
theorem words_free {r : Rc} (h : inN r) : ∀ w ∈ words r, (10 : UInt8) ∉ w ∧ (32 : UInt8) ∉ w ∧ w ≠ [] := by
  intro w hw
  have d : ∀ u : Nat, (10 : UInt8) ∉ decDigits u ∧ (32 : UInt8) ∉ decDigits u ∧ decDigits u ≠ [] := fun u => ⟨dd_free (by decide) u, dd_free (by decide) u, dd_ne u⟩
  have s : ∀ x ∈ allN, (10 : UInt8) ∉ dashB x ∧ (32 : UInt8) ∉ dashB x ∧ dashB x ≠ [] := fun x hx => ⟨(dash_free x hx).1, (dash_free x hx).2.1, (dash_free x hx).2.2.1⟩
  simp only [words, List.mem_cons, List.not_mem_nil, or_false] at hw
  rcases hw with rfl | rfl | rfl | rfl | rfl | rfl
  · exact s _ h.1
  · exact s _ h.2.1
  · exact s _ h.2.2.1
  · exact s _ h.2.2.2
  · exact d _
  · exact d _
theorem tail_free {c : UInt8} : ∀ (r : List (List UInt8)) (q : List UInt8) (d : UInt8), d ≠ c → d ∉ q → (∀ p ∈ r, d ∉ p) → d ∉ body c q r
  | [], q, d, _, h, _ => by rw [body_nil]; exact h
  | p :: r, q, d, hd, h, h2 => by
    have ih := tail_free r p d hd (h2 p (by simp)) (fun x hx => h2 x (by simp [hx]))
    rw [body_cons]
    intro e
    rcases List.mem_append.1 e with e | e
    · exact h e
    · rcases List.mem_cons.1 e with e | e
      · exact hd e
      · exact ih e
theorem line_free {r : Rc} (h : inN r) : (10 : UInt8) ∉ line r :=
  tail_free _ _ _ (by decide) (dd_free (by decide) _) fun p hp => (words_free h p hp).1
theorem num_len {n : Int} (h : n ≤ 345686399999) : (decDigits n.toNat).length ≤ 15 := Nat.le_trans (dd_len 14 _ (by omega)) (by decide)
theorem words_len {r : Rc} (h : Rd r) : ∀ w ∈ words r, w.length ≤ 15 := by
  intro w hw
  obtain ⟨⟨n1, n2, n3, n4⟩, _, _, _, _, _, _, _⟩ := h
  have s : ∀ x ∈ allN, (dashB x).length ≤ 15 := fun x hx => Nat.le_trans (dash_free x hx).2.2.2 (by decide)
  simp only [words, List.mem_cons, List.not_mem_nil, or_false] at hw
  rcases hw with rfl | rfl | rfl | rfl | rfl | rfl
  · exact s _ n1
  · exact s _ n2
  · exact s _ n3
  · exact s _ n4
  · exact num_len (by omega)
  · exact num_len (by omega)
theorem line_len {r : Rc} (h : Rd r) : (line r).length ≤ 112 := body_len 32 15 (words r) _ (num_len h.2.2.1) (words_len h)
theorem text_len : ∀ {L : List Rc}, (∀ r ∈ L, Rd r) → (text L).length ≤ L.length * 113
  | [], _ => Nat.le_refl _
  | p :: l, h => by
    have ih := text_len (L := l) fun q hq => h q (by simp [hq])
    have := line_len (h p (by simp))
    have e : text (p :: l) = (line p ++ [10]) ++ text l := rfl
    rw [e]
    simp
    omega
theorem toNat_inj {a b : Int} (ha : 0 ≤ a) (hb : 0 ≤ b) (h : a.toNat = b.toNat) : a = b := by omega
theorem line_inj {r s : Rc} (hr : Rd r) (hs : Rd s) (h : line r = line s) : r = s := by
  have fr := words_free hr.1
  have fs := words_free hs.1
  obtain ⟨e1, e2⟩ := body_inj (dd_free (by decide) _) (dd_free (by decide) _) (fun p hp => (fr p hp).2.1) (fun p hp => (fs p hp).2.1) h
  obtain ⟨⟨n1, n2, n3, n4⟩, a1, _, a2, a3, _, a4, _⟩ := hr
  obtain ⟨⟨m1, m2, m3, m4⟩, b1, _, b2, b3, _, b4, _⟩ := hs
  simp only [flds, Bool.and_eq_true] at a2 b2
  simp only [words, List.cons.injEq, and_true] at e2
  obtain ⟨f1, f2, f3, f4, f5, f6⟩ := e2
  have g0 := toNat_inj a1 b1 (dd_inj e1)
  have g1 := dash_inj _ n1 _ m1 a2.1.1.1 b2.1.1.1 f1
  have g2 := dash_inj _ n2 _ m2 a2.1.1.2 b2.1.1.2 f2
  have g3 := dash_inj _ n3 _ m3 a2.1.2 b2.1.2 f3
  have g4 := dash_inj _ n4 _ m4 a2.2 b2.2 f4
  have g5 := toNat_inj (by omega) (by omega) (dd_inj f5)
  have g6 := toNat_inj a4 b4 (dd_inj f6)
  obtain ⟨_, _, _, _, _, _, _⟩ := r
  obtain ⟨_, _, _, _, _, _, _⟩ := s
  simp only at g0 g1 g2 g3 g4 g5 g6
  subst g0 g1 g2 g3 g4 g5 g6
  rfl
/-- The lines of a text, with the empty one behind the last. -/
def lines : List Rc → List UInt8 × List (List UInt8)
  | [] => ([], [])
  | p :: l => (line p, l.map line ++ [[]])
theorem text_cons (p : Rc) (l : List Rc) : text (p :: l) = line p ++ 10 :: text l := by
  show (line p ++ [10]) ++ text l = _
  simp
theorem text_lines : ∀ L : List Rc, text L = body 10 (lines L).1 (lines L).2
  | [] => by simp [text, lines, body_nil]
  | [p] => by rw [text_cons, text_lines []]; simp [lines, body_cons, body_nil]
  | p :: q :: l => by
    rw [text_cons, text_lines (q :: l)]
    show _ = body 10 (line p) (line q :: (l.map line ++ [[]]))
    rw [body_cons]
    rfl
theorem lines_map (L : List Rc) : (lines L).1 :: (lines L).2 = L.map line ++ [[]] := by
  cases L with
  | nil => rfl
  | cons p l => simp [lines]
theorem map_inj {L M : List Rc} (hL : ∀ r ∈ L, Rd r) (hM : ∀ r ∈ M, Rd r) (h : L.map line = M.map line) : L = M := by
  induction L generalizing M with
  | nil => cases M with
    | nil => rfl
    | cons q m => simp at h
  | cons p l ih => cases M with
    | nil => simp at h
    | cons q m =>
      simp only [List.map_cons, List.cons.injEq] at h
      rw [line_inj (hL p (by simp)) (hM q (by simp)) h.1, ih (fun r hr => hL r (by simp [hr])) (fun r hr => hM r (by simp [hr])) h.2]
theorem lines_free {L : List Rc} (h : ∀ r ∈ L, Rd r) : (10 : UInt8) ∉ (lines L).1 ∧ ∀ p ∈ (lines L).2, (10 : UInt8) ∉ p := by
  have : ∀ x ∈ (lines L).1 :: (lines L).2, (10 : UInt8) ∉ x := by
    rw [lines_map]
    intro x hx
    rcases List.mem_append.1 hx with hx | hx
    · obtain ⟨r, hr, rfl⟩ := List.mem_map.1 hx
      exact line_free (h r hr).1
    · simp at hx; subst hx; simp
  exact ⟨this _ (by simp), fun p hp => this p (by simp [hp])⟩
theorem text_inj {L M : List Rc} (hL : ∀ r ∈ L, Rd r) (hM : ∀ r ∈ M, Rd r) (h : text L = text M) : L = M := by
  rw [text_lines, text_lines] at h
  obtain ⟨e1, e2⟩ := body_inj (lines_free hL).1 (lines_free hM).1 (lines_free hL).2 (lines_free hM).2 h
  have : L.map line ++ [[]] = M.map line ++ [[]] := by rw [← lines_map, ← lines_map, e1, e2]
  exact map_inj hL hM (List.append_cancel_right this)
end RecLaw

namespace Go.Proofs.YtfhhhfgbedddhaaGreatDoor
open Go.Ev Go.RowKit RecLaw

/-- A string of bytes. -/
def bl (l : List UInt8) : ByteArray := ⟨l.toArray⟩
def strV (l : List UInt8) : Value := .string (bl l)
theorem bl_list (l : List UInt8) : (bl l).data.toList = l := by simp [bl]
theorem bl_self (s : ByteArray) : bl s.data.toList = s := by
  obtain ⟨⟨l⟩⟩ := s
  rfl
theorem bl_inj {a b : List UInt8} (h : bl a = bl b) : a = b := by rw [← bl_list a, h, bl_list]
theorem bl_size (l : List UInt8) : (bl l).size = l.length := by
  show (bl l).data.size = _
  simp [bl]
theorem bl_cut (l : List UInt8) (a b : Nat) (h : b ≤ l.length) : (bl l).extract a b = bl ((l.take b).drop a) := by
  rw [← bl_self ((bl l).extract a b)]
  congr 1
  have : ((bl l).extract a b).data.toList = ((bl l).data.extract a b).toList := by
    rw [ByteArray.data_extract]
  rw [this]
  simp [bl, List.extract_eq_take_drop, List.drop_take]
theorem bl_app (a b : List UInt8) : bl a ++ bl b = bl (a ++ b) := by
  rw [← bl_self (bl a ++ bl b)]
  congr 1
def hdB (c : ByteArray) : UInt8 := c.data.toList.getD 0 0
theorem one_eq {c : ByteArray} (h : Nat.beq c.size 1 = true) : c = ⟨#[hdB c]⟩ := by
  have h := Nat.eq_of_beq_eq_true h
  obtain ⟨⟨l⟩⟩ := c
  match l, h with
  | [x], _ => rfl
def isB (c : ByteArray) (b : Nat) : Bool := beqN (natsOf c) [b]
theorem isB_eq {c : ByteArray} {b : UInt8} (h : isB c b.toNat = true) : c = ⟨#[b]⟩ := natsOf_inj (beqN_eq h)
theorem wrap1 {i : Nat} (h : i ≤ 1000000) : IntKind.i64.wrap ((i : Int) + 1) = ((i + 1 : Nat) : Int) := by rw [wrap_id _ (by omega) (by omega)]; rfl
noncomputable def spIx (f : FuncId) (args : Array Value) (h : AH) : Option (Bool × Value × AH) :=
  cond (Nat.beq f 95) (match args with
    | ⟨[.string s, .string c]⟩ => some (Nat.beq c.size 1, .int .i64 (Lib.indexByte s.data.toList (hdB c)), h)
    | _ => none) none
theorem spIx_ok : SpOK spIx := by
  intro f args h v h' hs
  unfold spIx at hs
  obtain ⟨hf, hs2⟩ := cond_some hs
  clear hs
  have := Nat.eq_of_beq_eq_true hf
  subst this
  split at hs2
  · injection hs2 with hs
    injection hs with hb hs
    injection hs with hv hh
    subst hv hh
    rename_i s c
    rw [one_eq hb]
    exact ⟨flat_call (args := [.string s, .string ⟨#[hdB c]⟩]) rfl rfl fun w => (Tryz.strings_Index_one s (hdB c) w).mono fun e w' ⟨h1, h2⟩ => ⟨h1, h2 ▸ Below.refl _ _⟩, Nat.le_refl _⟩
  · cases hs2
noncomputable def spCn (f : FuncId) (args : Array Value) (h : AH) : Option (Bool × Value × AH) :=
  cond (Nat.beq f 94) (match args with
    | ⟨[.string s, .string c]⟩ => some (Nat.beq c.size 1, .int .i64 (Lib.countByte s.data.toList (hdB c)), h)
    | _ => none) none
theorem spCn_ok : SpOK spCn := by
  intro f args h v h' hs
  unfold spCn at hs
  obtain ⟨hf, hs2⟩ := cond_some hs
  clear hs
  have := Nat.eq_of_beq_eq_true hf
  subst this
  split at hs2
  · injection hs2 with hs
    injection hs with hb hs
    injection hs with hv hh
    subst hv hh
    rename_i s c
    rw [one_eq hb]
    exact ⟨flat_call (args := [.string s, .string ⟨#[hdB c]⟩]) rfl rfl fun w => (Tryz.strings_Count_one s (hdB c) w).mono fun e w' ⟨h1, h2⟩ => ⟨h1, h2 ▸ Below.refl _ _⟩, Nat.le_refl _⟩
  · cases hs2

/-! Numbers -/
theorem tab_is {w : World} (h : TabsIn Tryz.prog w) {b : Nat} (hb : Tryz.prog.globalNamed "internal/strconv.uint64pow10" = some b) : Lib.TabIs Tryz.prog w "internal/strconv.uint64pow10" .u64 Lib.pow10Tab := by
  obtain ⟨t, fr, q⟩ := h b _ ⟨_, List.mem_singleton.2 rfl, hb⟩
  unfold Lib.TabIs World.var?
  rw [hb]
  show (match w.heap[b]? with
    | some (.cells cs _ _) => some cs
    | _ => none) = _
  rw [q]
  rfl
theorem tabG : (Tryz.prog.globalNamed "internal/strconv.uint64pow10").isSome = true := by kernel_rfl
theorem below_grow (w : World) (k : Nat) (os : Array Obj) : Below w.heap.size w (Sort.grow (w.drewN k) os) :=
  ⟨rfl, rfl, rfl, by simp [Sort.grow, World.drewN], fun b hb => by
    simp only [Sort.grow, World.drewN]
    rw [Array.getElem?_append_left hb]⟩
theorem it_call {n : Int} (h0 : 0 ≤ n) (h1 : n ≤ 1000000000000000) (H : AH) : CallOK Tryz.prog 36 ⟨[.int .i64 n]⟩ H (.string (bl (Lib.decDigits n.toNat))) H := by
  obtain ⟨b, hb⟩ := Option.isSome_iff_exists.1 tabG
  refine flat_callT (args := [.int .i64 n]) rfl rfl fun w hw => (Tryz.strconv_Itoa n (by omega) (by omega) w (tab_is hw hb)).mono ?_
  rintro e w' ⟨rfl, k, os, rfl⟩
  refine ⟨?_, below_grow w k os⟩
  have : Lib.itoa n = Lib.decDigits n.toNat := by unfold Lib.itoa; rw [if_neg (by omega)]
  rw [this]
  rfl
noncomputable def spIt (f : FuncId) (args : Array Value) (h : AH) : Option (Bool × Value × AH) :=
  cond (Nat.beq f 36) (match args with
    | ⟨[.int .i64 n]⟩ => some (decide (0 ≤ n) && decide (n ≤ 1000000000000000), .string (bl (Lib.decDigits n.toNat)), h)
    | _ => none) none
theorem spIt_ok : SpOK spIt := by
  intro f args h v h' hs
  unfold spIt at hs
  obtain ⟨hf, hs2⟩ := cond_some hs
  clear hs
  have := Nat.eq_of_beq_eq_true hf
  subst this
  split at hs2
  · injection hs2 with hs
    injection hs with hb hs
    injection hs with hv hh
    subst hv hh
    rename_i n
    simp only [Bool.and_eq_true, decide_eq_true_eq] at hb
    exact ⟨it_call hb.1 hb.2 h, Nat.le_refl _⟩
  · cases hs2
open Classical in
noncomputable def okNu (s : ByteArray) : Bool := @decide (∃ u : Nat, s = bl (Lib.decDigits u) ∧ s.size ≤ 15) (Classical.propDecidable _)
theorem okNu_iff {s : ByteArray} : okNu s = true ↔ ∃ u : Nat, s = bl (Lib.decDigits u) ∧ s.size ≤ 15 := by unfold okNu; exact @decide_eq_true_iff _ (Classical.propDecidable _)
def nuC (s : ByteArray) : Int := (Lib.atoi s.data.toList).getD 0
theorem nuC_bl (u : Nat) : nuC (bl (Lib.decDigits u)) = (u : Int) := by
  unfold nuC
  rw [bl_list, dd_atoi]
  rfl
noncomputable def spAt (f : FuncId) (args : Array Value) (h : AH) : Option (Bool × Value × AH) :=
  cond (Nat.beq f 60) (match args with
    | ⟨[.string s]⟩ => some (okNu s, .tuple ⟨[.int .i64 (nuC s), .nilIface]⟩, h)
    | _ => none) none
theorem spAt_ok : SpOK spAt := by
  intro f args h v h' hs
  unfold spAt at hs
  obtain ⟨hf, hs2⟩ := cond_some hs
  clear hs
  have := Nat.eq_of_beq_eq_true hf
  subst this
  split at hs2
  · injection hs2 with hs
    injection hs with hb hs
    injection hs with hv hh
    subst hv hh
    rename_i s
    obtain ⟨u, rfl, hl⟩ := okNu_iff.1 hb
    rw [nuC_bl]
    refine ⟨numErr_call fun w => (Tryz.strconv_Atoi (bl (Lib.decDigits u)) u (by omega) (by rw [bl_list]; exact dd_atoi u) w).mono ?_, Nat.le_refl _⟩
    rintro e w' ⟨rfl, t, rfl⟩
    exact ⟨rfl, Lib.bytesWorld_below _ _ _⟩
  · cases hs2

/-! Join of a row -/
def strsOf (xs : List Value) : List ByteArray := xs.map toStr
theorem strs_map : ∀ {xs : List Value}, xs.all isStr = true → xs = (strsOf xs).map Value.string
  | [], _ => rfl
  | x :: l, h => by
    simp only [List.all_cons, Bool.and_eq_true] at h
    have h1 : x = .string (toStr x) := by cases x <;> first | rfl | cases h.1
    have h2 := strs_map h.2
    show x :: l = .string (toStr x) :: (strsOf l).map Value.string
    rw [← h2, ← h1]
def lenJ (xs : List Value) (sep : ByteArray) : Bool := Nat.ble (Lib.join ((strsOf xs).map (·.data.toList)) sep.data.toList).length 100000
noncomputable def spJr (f : FuncId) (args : Array Value) (h : AH) : Option (Bool × Value × AH) :=
  cond (Nat.beq f 35) (match args with
    | ⟨[.slice (some ⟨b, 0, none⟩) n c, .string sep]⟩ => match h.get b with
      | some (.cells ⟨xs⟩ t (0, 0)) => some (xs.all isStr && Nat.beq xs.length n && Nat.blt 0 n && Nat.ble n c && Nat.ble n 1000 && lenJ xs sep, .string (bl (Lib.join ((strsOf xs).map (·.data.toList)) sep.data.toList)), h)
      | _ => none
    | _ => none) none
theorem spJr_ok : SpOK spJr := by
  intro f args h v h' hs
  unfold spJr at hs
  obtain ⟨hf, hs2⟩ := cond_some hs
  clear hs
  have := Nat.eq_of_beq_eq_true hf
  subst this
  split at hs2
  · rename_i b n c sep
    split at hs2
    · rename_i xs t hg
      injection hs2 with hs
      injection hs with hb hs
      injection hs with hv hh
      subst hv hh
      simp only [Bool.and_eq_true] at hb
      obtain ⟨⟨⟨⟨⟨b1, b2⟩, b3⟩, b4⟩, b5⟩, b6⟩ := hb
      have b2 := Nat.eq_of_beq_eq_true b2
      have b3 : 1 ≤ n := Nat.le_of_ble_eq_true b3
      have b4 := Nat.le_of_ble_eq_true b4
      have b5 := Nat.le_of_ble_eq_true b5
      unfold lenJ at b6
      have b6 := Nat.le_of_ble_eq_true b6
      have hlen : (strsOf xs).length = xs.length := List.length_map _
      have := join_row (P := Tryz.prog) (f := 35) (fun bk o c xs sep w => Tryz.strings_Join bk o c xs sep w) (xs := strsOf xs) (sep := sep) (H := h) (b := b) (c := c) (t := t) (by rw [← strs_map b1]; exact hg) (by
        intro e
        rw [e] at hlen
        simp at hlen
        omega) (by omega) (by omega) (by omega)
      rw [hlen, b2] at this
      exact ⟨this, Nat.le_refl _⟩
    · cases hs2
  · cases hs2

/-! genSplit -/
noncomputable def SB2 : SC := ⟨idn, spOr spIx spCn, true, true⟩
theorem SB2_ok : SB2.cfg.OK Tryz.prog := (spIx_ok.or spCn_ok).cfg
def gH (cs : List Value) : AH := ⟨1, 1, [(0, .cells ⟨cs⟩ 9 (0, 0))]⟩
def ixS (c : UInt8) (s : ByteArray) : Int := Lib.indexByte s.data.toList c
theorem gsr (c : UInt8) (s : ByteArray) (n i : Int) (m : Nat) (cs : List Value) (B : List Value → AH → Prop) (Q : AExit → List Value → AH → Prop) :
    once 0 Tryz.prog SB2 [] noHooks 600 66 [0, 1, 2, 3, 10, 9] [0] [0, 10, 9] [0] (oneLoop (codeOf Tryz.f57) 11) [.string s, .string ⟨#[c]⟩, .int .i64 0, .int .i64 n, .int .i64 i, .slice (some ⟨0, 0, none⟩) m m] (gH cs) B Q =
      bif decide (i < n) then bif decide (ixS c s < 0) then NoNames (.cells ⟨cs⟩ 9 (0, 0)) ∧ Q (.exit 0) [.string s, .int .i64 i, .slice (some ⟨0, 0, none⟩) m m] (gH cs) else
        bif decide (0 ≤ IntKind.i64.wrap (ixS c s + 0)) && decide (IntKind.i64.wrap (ixS c s + 0) ≤ (s.size : Int)) then bif decide (0 ≤ i) && decide (i < (m : Int)) then bif (0 + i.toNat * 1 + 1).ble (Array.mk cs).size && true && true then
        bif decide (0 ≤ IntKind.i64.wrap (ixS c s + 1)) && decide (IntKind.i64.wrap (ixS c s + 1) ≤ (s.size : Int)) && decide ((s.size : Int) ≤ (s.size : Int)) then
          NoNames (.cells (putAll ⟨cs⟩ (0 + i.toNat * 1) [.string (s.extract 0 (IntKind.i64.wrap (ixS c s + 0)).toNat)]) 9 (0, 0)) ∧
          B [.string (s.extract (IntKind.i64.wrap (ixS c s + 1)).toNat s.size), .string ⟨#[c]⟩, .int .i64 0, .int .i64 n, .int .i64 (IntKind.i64.wrap (i + 1)), .slice (some ⟨0, 0, none⟩) m m] ⟨1, 1, [(0, .cells (putAll ⟨cs⟩ (0 + i.toNat * 1) [.string (s.extract 0 (IntKind.i64.wrap (ixS c s + 0)).toNat)]) 9 (0, 0))]⟩
        else False else False else False else False
      else NoNames (.cells ⟨cs⟩ 9 (0, 0)) ∧ Q (.exit 0) [.string s, .int .i64 i, .slice (some ⟨0, 0, none⟩) m m] (gH cs) := by kernel_rfl
theorem nnS (D : List (List UInt8)) (t : TypeId) (fr : Nat × Nat) : NoNames (.cells ⟨D.map strV⟩ t fr) := by
  intro v hv
  obtain ⟨d, _, rfl⟩ := List.mem_map.1 (show v ∈ D.map strV from hv)
  rfl
theorem put_one {D : List (List UInt8)} {i : Nat} (q : List UInt8) (hi : i < D.length) : putAll ⟨D.map strV⟩ (0 + (i : Int).toNat * 1) [strV q] = ⟨(D.set i q).map strV⟩ := by
  rw [putAll_eq _ _ _ (by show 0 + (i : Int).toNat * 1 + 1 ≤ (D.map strV).length; rw [List.length_map]; omega)]
  show (⟨(D.map strV).take (0 + i * 1) ++ [strV q] ++ (D.map strV).drop (0 + i * 1 + 1)⟩ : Array Value) = _
  rw [Nat.zero_add, Nat.mul_one, List.map_set, List.set_eq_take_append_cons_drop, if_pos (by rw [List.length_map]; exact hi)]
  simp
theorem gs_loop {c : UInt8} {n : Nat} (hn : n ≤ 1000) : ∀ (r : List (List UInt8)) (q : List UInt8) (i : Nat) (D : List (List UInt8)), c ∉ q → (∀ p ∈ r, c ∉ p) → i + r.length = n → D.length = n + 1 → (body c q r).length ≤ 100000 →
    ∃ (D' : List (List UInt8)) (q2 : List UInt8), D'.length = n + 1 ∧ D'.take n ++ [q2] = D.take i ++ q :: r ∧ ∀ K : AExit → List Value → AH → Prop,
      K (.exit 0) [strV q2, .int .i64 (n : Int), .slice (some ⟨0, 0, none⟩) (n + 1) (n + 1)] (gH (D'.map strV)) →
      iter 0 Tryz.prog SB2 [] noHooks 600 66 [0, 1, 2, 3, 10, 9] [0] [0, 10, 9] [0] (oneLoop (codeOf Tryz.f57) 11) (r.length + 1) [.string (bl (body c q r)), .string ⟨#[c]⟩, .int .i64 0, .int .i64 (n : Int), .int .i64 (i : Int), .slice (some ⟨0, 0, none⟩) (n + 1) (n + 1)] (gH (D.map strV)) K
  | [], q, i, D, h1, h2, h3, h4, h5 => by
    have hi : i = n := by simpa using h3
    subst hi
    refine ⟨D, q, h4, rfl, fun K hK => ?_⟩
    rw [body_nil]
    exact (gsr _ _ _ _ _ _ _ K).mpr (pick_f (by simp) ⟨nnS D _ _, hK⟩)
  | p :: r, q, i, D, h1, h2, h3, h4, h5 => by
    have hb := body_cons c q p r
    have hlen : (body c q (p :: r)).length = q.length + 1 + (body c p r).length := by rw [hb]; simp; omega
    have h3' : i + 1 + r.length = n := by rw [List.length_cons] at h3; omega
    obtain ⟨D', q2, y1, y2, y3⟩ := gs_loop hn r p (i + 1) (D.set i q) (h2 p (by simp)) (fun x hx => h2 x (by simp [hx])) h3' (by rw [List.length_set, h4]) (by omega)
    have hset : (D.set i q).take (i + 1) = D.take i ++ [q] := by
      rw [List.take_add_one, List.getElem?_set_self (by omega), List.take_set_of_le (Nat.le_refl _)]
      rfl
    refine ⟨D', q2, y1, by rw [y2, hset]; simp, fun K hK => ?_⟩
    have hix : ixS c (bl (body c q (p :: r))) = (q.length : Int) := by
      unfold ixS
      rw [bl_list, hb]
      exact idx_at _ h1
    have hsz := bl_size (body c q (p :: r))
    have w0 : IntKind.i64.wrap ((q.length : Int) + 0) = (q.length : Int) := by rw [Int.add_zero]; exact wrap_id _ (by omega) (by omega)
    have w1 : IntKind.i64.wrap ((q.length : Int) + 1) = ((q.length + 1 : Nat) : Int) := wrap1 (by omega)
    have c1 : (bl (body c q (p :: r))).extract 0 (q.length : Int).toNat = bl q := by
      show (bl (body c q (p :: r))).extract 0 q.length = _
      rw [bl_cut _ _ _ (by omega), hb]
      simp
    have c2 : (bl (body c q (p :: r))).extract ((q.length + 1 : Nat) : Int).toNat (bl (body c q (p :: r))).size = bl (body c p r) := by
      show (bl (body c q (p :: r))).extract (q.length + 1) (bl (body c q (p :: r))).size = _
      rw [hsz, bl_cut _ _ _ (Nat.le_refl _), List.take_length, hb]
      congr 1
      rw [List.drop_append, List.drop_of_length_le (by omega), List.nil_append, Nat.add_sub_cancel_left]
      rfl
    refine (gsr _ _ _ _ _ _ _ K).mpr ?_
    rw [hix, w0, w1, c1, c2]
    refine pick_t (decide_eq_true (by omega)) (pick_f (decide_eq_false (by omega)) (need_mk (by simp; omega) (need_mk (by simp; omega) (need_mk ?_ (need_mk (by simp; omega) ?_)))))
    · have : (0 + (i : Int).toNat * 1 + 1).ble (Array.mk (D.map strV)).size = true := by
        rw [Nat.ble_eq]
        show 0 + (i : Int).toNat * 1 + 1 ≤ (D.map strV).length
        rw [List.length_map]; omega
      rw [this]; rfl
    · have hp := put_one (D := D) (i := i) q (by omega)
      have hp : putAll ⟨D.map strV⟩ (0 + (i : Int).toNat * 1) [.string (bl q)] = ⟨(D.set i q).map strV⟩ := hp
      rw [hp, wrap1 (by omega)]
      exact ⟨nnS _ _ _, y3 K hK⟩
def sC : Array Value := #[.string ⟨#[]⟩]
noncomputable def nS (c : UInt8) (s : ByteArray) : Int := if IntKind.i64.wrap ((s.size : Int) + 1) < IntKind.i64.wrap ((Lib.countByte s.data.toList c : Int) + 1) then IntKind.i64.wrap ((s.size : Int) + 1) else IntKind.i64.wrap ((Lib.countByte s.data.toList c : Int) + 1)
noncomputable def gsE (s2 : ByteArray) (cs : List Value) (k m : Nat) (Q : Value → AH → Prop) : Prop :=
  bif decide ((k : Int) < (m : Int)) then bif (0 + k * 1 + 1).ble (Array.mk cs).size && true && true then bif decide (0 ≤ IntKind.i64.wrap ((k : Int) + 1)) && decide (IntKind.i64.wrap ((k : Int) + 1) ≤ (m : Int)) then
    bif Nat.beq 0 m then Q (.slice (some ⟨0, 0, none⟩) ((IntKind.i64.wrap ((k : Int) + 1)).toNat - 0) (m - 0)) ⟨1, 0, [(0, .cells (putAll ⟨cs⟩ (0 + k * 1) [.string s2]) 9 (1, 1))]⟩
    else Q (.slice (some ⟨0, 0, none⟩) ((IntKind.i64.wrap ((k : Int) + 1)).toNat - 0) (m - 0)) ⟨1, 0, [(0, .cells (putAll ⟨cs⟩ (0 + k * 1) [.string s2]) 9 (1, 1))]⟩
  else False else False else False
theorem gsf (c : UInt8) (s s2 : ByteArray) (m k : Nat) (cs : List Value) (C : List Value → AH → Prop) (Q : Value → AH → Prop) :
    tfn Tryz.prog SB2 [] (hook1 11 (thenLS (hookLS 0 66 [0, 1, 2, 3, 10, 9] [0] [0, 10, 9] (fun vals h K => C vals h ∧ K (.exit 0) [.string s2, .int .i64 (k : Int), .slice (some ⟨0, 0, none⟩) m m] (gH cs))) (markG 9))) 600 [] Tryz.f57 [.string s, .string ⟨#[c]⟩, .int .i64 0, .int .i64 (-1)] h0 Q =
      bif decide (0 ≤ nS c s) && decide (nS c s ≤ nS c s) && decide (nS c s ≤ 9223372036854775807) && ((nS c s).toNat * 16).ble 140737488355328 && (((nS c s).toNat * 1).beq 0 || true) then
        NoNames (.cells ⟨zlist sC ((nS c s).toNat * 1)⟩ 9 (0, 0)) ∧ C [.string s, .string ⟨#[c]⟩, .int .i64 0, .int .i64 (IntKind.i64.wrap (nS c s - 1)), .int .i64 0, .slice (some ⟨0, 0, none⟩) (nS c s).toNat (nS c s).toNat] (gH (zlist sC ((nS c s).toNat * 1))) ∧ gsE s2 cs k m Q
      else False := by kernel_rfl
theorem zl_rep (n : Nat) : zlist sC n = (List.replicate n ([] : List UInt8)).map strV := by
  have e : (fun i => sC[i % sC.size]?.getD undef) = fun _ : Nat => strV [] := by
    funext i
    have : i % sC.size = 0 := Nat.mod_one i
    rw [this]
    rfl
  show (List.range n).map (fun i => sC[i % sC.size]?.getD undef) = _
  rw [e, List.map_const', List.length_range, List.map_replicate]
theorem oneGS : (loopAt (codeOf Tryz.f57) 11).length = 1 := by kernel_rfl
theorem someGS : Tryz.f57.body.isSome = true := by kernel_rfl
theorem strV_map (D : List (List UInt8)) : (D.map bl).map Value.string = D.map strV := by rw [List.map_map]; rfl
theorem freezeS {p : Nat} {P : Program} {h : AH} {b : Nat} {t : TypeId} {fr : Nat × Nat} (D : List (List UInt8)) {m : Nat} (hm : D.length = m) (hb : h.get b = some (.cells ⟨D.map strV⟩ t fr)) :
    Weak p P #[.slice (some ⟨b, 0, none⟩) m m] h #[fz ⟨D.map strV⟩] (h.del b) := by
  have := freeze1 (p := p) (P := P) (h := h) (b := b) (t := t) (fr := fr) (D.map bl) (m := m) (by rw [List.length_map, hm]) (by rw [strV_map]; exact hb)
  rw [strV_map] at this
  exact this
/-- What genSplit hands back, as a row of its own. -/
theorem gs_row {c : UInt8} {q : List UInt8} {r : List (List UInt8)} (h1 : c ∉ q) (h2 : ∀ p ∈ r, c ∉ p) (h3 : r.length ≤ 1000) (h4 : (body c q r).length ≤ 100000) :
    FnOK 0 Tryz.prog 57 ⟨[.string (bl (body c q r)), .string ⟨#[c]⟩, .int .i64 0, .int .i64 (-1)]⟩ h0 (fun v h => v = .slice (some ⟨0, 0, none⟩) (r.length + 1) (r.length + 1) ∧ h.get 0 = some (.cells ⟨(q :: r).map strV⟩ 9 (1, 1))) := by
  obtain ⟨D, q2, y1, y2, y3⟩ := gs_loop (n := r.length) h3 r q 0 (List.replicate (r.length + 1) []) h1 h2 (by omega) (by simp) h4
  have hcnt : (Lib.countByte (bl (body c q r)).data.toList c : Int) = (r.length : Int) := by rw [bl_list, count_body r q h1 h2]
  have hsz : (bl (body c q r)).size = (body c q r).length := bl_size _
  have hle : r.length ≤ (body c q r).length := by
    have := count_body r q h1 h2
    unfold Lib.countByte at this
    rw [← this]
    exact List.count_le_length
  have hn : nS c (bl (body c q r)) = ((r.length + 1 : Nat) : Int) := by
    unfold nS
    rw [hcnt, hsz, wrap1 (i := r.length) (by omega), wrap1 (i := (body c q r).length) (by omega)]
    split
    · omega
    · rfl
  have hz : zlist sC (((r.length + 1 : Nat) : Int).toNat * 1) = (List.replicate (r.length + 1) ([] : List UInt8)).map strV := by
    rw [Nat.mul_one]; exact zl_rep _
  have hw : IntKind.i64.wrap (((r.length + 1 : Nat) : Int) - 1) = (r.length : Int) := by rw [wrap_id _ (by omega) (by omega)]; omega
  have hsp : LSpec 0 Tryz.prog 66 (oneLoop (codeOf Tryz.f57) 11) (thenLS (hookLS 0 66 [0, 1, 2, 3, 10, 9] [0] [0, 10, 9] (fun vals h K => (vals = [.string (bl (body c q r)), .string ⟨#[c]⟩, .int .i64 0, .int .i64 (r.length : Int), .int .i64 0, .slice (some ⟨0, 0, none⟩) (r.length + 1) (r.length + 1)] ∧ h = gH ((List.replicate (r.length + 1) ([] : List UInt8)).map strV)) ∧
      K (.exit 0) [.string (bl q2), .int .i64 (r.length : Int), .slice (some ⟨0, 0, none⟩) (r.length + 1) (r.length + 1)] (gH (D.map strV)))) (markG 9)) := by
    refine thenLS_ok (hook_ok (G := []) (L := noHooks) (f := 600) (sameX := [0]) SB2_ok mixed (by decide) (loops_none _ _ _ _) ?_) (markG_ok _ _ _ _)
    rintro vals h K ⟨⟨rfl, rfl⟩, hK⟩
    exact ⟨_, y3 K hK⟩
  refine FnOK.ttree SB2_ok mixed Tryz.func57 someGS (loops_one oneGS hsp) (gsf c (bl (body c q r)) (bl q2) (r.length + 1) r.length (D.map strV) _ _) ?_
  rw [hn, hz, hw]
  refine need_mk ?_ ⟨nnS _ _ _, ⟨rfl, rfl⟩, ?_⟩
  · simp only [Bool.and_eq_true, decide_eq_true_eq, Nat.ble_eq, Bool.or_true]
    refine ⟨⟨⟨⟨?_, ?_⟩, ?_⟩, ?_⟩, trivial⟩ <;> omega
  · have w2 := wrap1 (i := r.length) (by omega)
    unfold gsE
    rw [w2]
    have hpo := put_one (D := D) (i := r.length) q2 (by omega)
    have hpo : putAll ⟨D.map strV⟩ (0 + r.length * 1) [.string (bl q2)] = ⟨(D.set r.length q2).map strV⟩ := hpo
    rw [hpo]
    have hD : D.set r.length q2 = q :: r := by
      rw [List.set_eq_take_append_cons_drop, if_pos (by omega), List.drop_of_length_le (by omega), y2]
      simp
    rw [hD]
    refine need_mk (decide_eq_true (by omega)) (need_mk ?_ (need_mk (by simp; omega) ?_))
    · have : (0 + r.length * 1 + 1).ble (Array.mk (D.map strV)).size = true := by
        rw [Nat.ble_eq]
        show 0 + r.length * 1 + 1 ≤ (D.map strV).length
        rw [List.length_map]; omega
      rw [this]; rfl
    · cases Nat.beq 0 (r.length + 1) <;> exact ⟨rfl, rfl⟩
theorem gs_fn {c : UInt8} {q : List UInt8} {r : List (List UInt8)} (h1 : c ∉ q) (h2 : ∀ p ∈ r, c ∉ p) (h3 : r.length ≤ 1000) (h4 : (body c q r).length ≤ 100000) :
    FnOK 0 Tryz.prog 57 ⟨[.string (bl (body c q r)), .string ⟨#[c]⟩, .int .i64 0, .int .i64 (-1)]⟩ h0 (fun v _ => v = fz ⟨(q :: r).map strV⟩) := by
  refine FnOK.weak1 ((gs_row h1 h2 h3 h4).mono ?_)
  rintro v g ⟨rfl, hg⟩
  exact ⟨_, _, freezeS (h := g) (b := 0) (q :: r) (by simp) hg, rfl⟩
end Go.Proofs.YtfhhhfgbedddhaaGreatDoor
