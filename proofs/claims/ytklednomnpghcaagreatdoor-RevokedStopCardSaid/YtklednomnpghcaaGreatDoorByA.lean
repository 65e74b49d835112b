/-
  Paths: strings that are joined and taken apart.
-/
import Derived.Test.YtklednomnpghcaaGreatDoorBase
import Derived.Test.YtklednomnpghcaaGreatDoorByS
import Derived.Below
import Derived.Lib.Bytealg
import Derived.Lib.Join
import Derived.Lib.ItoaNum
import Derived.Lib.Atoi
import Derived.Lib.IndexAny
import Derived.Lib.Case
import Derived.Lib.Index
namespace Go.Ev
open Go.RowKit
/-- The row of a slice gets the mark 1. -/
noncomputable def markG (s : Nat) : LS := fun t h K => match t.get s with
  | .slice (some ⟨b, 0, none⟩) _ _ => match h.get b with
    | some (.cells c ty (0, 0)) => K .normal t (h.set b (.cells c ty (1, 1)))
    | _ => False
  | _ => False
theorem markG_ok (p : Nat) (P : Program) (m s : Nat) : GSpec p P m (markG s) := by
  intro t τ h K hr hs
  unfold markG at hs
  split at hs
  · split at hs
    · rename_i c ty hg
      exact ⟨t, τ, _, Weak.mark 0 1 hg, hr, hs⟩
    · exact hs.elim
  · exact hs.elim
noncomputable def thenLSz (ls g : LS) : LS := fun t h K => ls t h fun e t' h' => match e with
  | .exit i => g t' h' fun _ t2 h2 => K (.exit i) t2 h2
  | e => K e t' h'
theorem thenLSz_ok {p : Nat} {P : Program} {m : Nat} {b : Code} {ls g : LS} (hl : LSpec p P m b ls) (hg : GSpec p P m g) : LSpec p P m b (thenLSz ls g) := by
  intro t τ h K hr hs
  refine Tri.post ((hl t τ h _ hr hs).mono ?_)
  rintro e τ' h' ⟨t', hr', hq⟩
  cases e with
  | exit i =>
    obtain ⟨t2, τ2, h2, hW, hr2, hq2⟩ := hg t' τ' h' _ hr' hq
    exact ⟨τ2, h2, hW, t2, hr2, hq2⟩
  | normal => exact ⟨τ', h', Weak.refl _ _ _ _, t', hr', hq⟩
  | ret => exact ⟨τ', h', Weak.refl _ _ _ _, t', hr', hq⟩
end Go.Ev
/-! Plain laws: digits; joined parts and their one reading. -/
namespace RecLaw
open Go.Lib
/-! Digits -/
/-! Parts that are joined -/
theorem idx_at {c : UInt8} : ∀ {q : List UInt8} (s : List UInt8), c ∉ q → indexByte (q ++ c :: s) c = (q.length : Int)
  | [], s, _ => by
    show indexByte (c :: s) c = _
    unfold indexByte
    simp
  | b :: l, s, h => by
    have h1 : (b == c) = false := beq_eq_false_iff_ne.2 fun e => h (by rw [e]; simp)
    have h2 := idx_at (q := l) s fun e => h (List.mem_cons_of_mem _ e)
    show indexByte (b :: (l ++ c :: s)) c = _
    unfold indexByte
    rw [h1, h2]
    have h3 : ((l.length : Int) == -1) = false := beq_eq_false_iff_ne.2 (by omega)
    rw [h3]
    simp
def tail (c : UInt8) (r : List (List UInt8)) : List UInt8 := r.flatMap fun p => c :: p
def body (c : UInt8) (q : List UInt8) (r : List (List UInt8)) : List UInt8 := q ++ tail c r
theorem body_nil (c : UInt8) (q : List UInt8) : body c q [] = q := by simp [body, tail]
theorem body_cons (c : UInt8) (q p : List UInt8) (r : List (List UInt8)) : body c q (p :: r) = q ++ c :: body c p r := by simp [body, tail]
theorem count_body {c : UInt8} : ∀ (r : List (List UInt8)) (q : List UInt8), c ∉ q → (∀ p ∈ r, c ∉ p) → countByte (body c q r) c = r.length
  | [], q, h, _ => by rw [body_nil]; exact List.count_eq_zero.2 h
  | p :: r, q, h, h2 => by
    have ih := count_body r p (h2 p (by simp)) (fun x hx => h2 x (by simp [hx]))
    rw [body_cons]
    unfold countByte at ih ⊢
    rw [List.count_append, List.count_cons_self, ih, List.count_eq_zero.2 h]
    simp
theorem join_body (c : UInt8) (q : List UInt8) (r : List (List UInt8)) : join (q :: r) [c] = body c q r := by
  rw [join_cons]
  unfold body joinTail tail
  rw [List.flatMap_def]
  rfl
end RecLaw
/-! Plain laws for PathsStay: units in their normal form, paths without dots. -/
namespace PathLaw
open RecLaw Go.Lib
theorem mc {α : Type} {P : α → Prop} {a : α} {l : List α} (h0 : P a) (h : ∀ x ∈ l, P x) : ∀ x ∈ a :: l, P x := fun x hx => (List.mem_cons.1 hx).elim (fun e => e ▸ h0) (h x)
def isHexB (c : UInt8) : Bool := (decide (48 ≤ c) && decide (c ≤ 57)) || (decide (97 ≤ c) && decide (c ≤ 102)) || (decide (65 ≤ c) && decide (c ≤ 70))
def hexV (c : UInt8) : UInt8 := if c ≤ 57 then c - 48 else if c ≤ 70 then c - 55 else c - 87
def unitB (a b : UInt8) : UInt8 := hexV a * 16 + hexV b
def upH (n : UInt8) : UInt8 := if n < 10 then 48 + n else 55 + n
def pctB (c : UInt8) : List UInt8 := [37, upH (c / 16), upH (c % 16)]
def freeB (c : UInt8) : Bool := (decide (97 ≤ c) && decide (c ≤ 122)) || (decide (65 ≤ c) && decide (c ≤ 90)) || (decide (48 ≤ c) && decide (c ≤ 57)) || c == 45 || c == 46 || c == 95 || c == 126
/-- What a unit becomes. -/
def tok (u : UInt8) : List UInt8 := if freeB u then [u] else pctB u
/-- Units that stay: upper digits of a byte that is not free. -/
def nm : List UInt8 → Bool
  | [] => true
  | [c] => c != 37
  | [c, a] => c != 37 && nm [a]
  | c :: a :: b :: r => if c = 37 then isHexB a && isHexB b && (pctB (unitB a b) == [37, a, b]) && !freeB (unitB a b) && nm r else nm (a :: b :: r)
/-! Bytes that a path may have -/
/-! Dots -/
/-- Pieces that stay where they are. -/
def stays (P : List UInt8 → Prop) (L : List (List UInt8)) : Prop := ∀ w ∈ L, w ≠ [46] ∧ w ≠ [46, 46] ∧ P w
/-! Splitting -/
theorem split_ex (c : UInt8) : ∀ l : List UInt8, ∃ q r, l = body c q r ∧ c ∉ q ∧ ∀ p ∈ r, c ∉ p
  | [] => ⟨[], [], rfl, by simp, by simp⟩
  | x :: l => by
    obtain ⟨q, r, h1, h2, h3⟩ := split_ex c l
    by_cases hx : x = c
    · subst hx
      exact ⟨[], q :: r, by rw [body_cons, h1]; rfl, by simp, mc h2 h3⟩
    · exact ⟨x :: q, r, by rw [h1]; rfl, fun h => (List.mem_cons.1 h).elim (fun e => hx e.symm) h2, h3⟩
/-! Paths -/
/-- The pieces of a text between strokes. -/
def spl (c : UInt8) : List UInt8 → List (List UInt8)
  | [] => [[]]
  | x :: l => if x = c then [] :: spl c l else match spl c l with
    | [] => [[x]]
    | q :: r => (x :: q) :: r
theorem spl_body (c : UInt8) : ∀ (l : List UInt8) (q : List UInt8) (r : List (List UInt8)), c ∉ q → (∀ p ∈ r, c ∉ p) → l = body c q r → spl c l = q :: r
  | l, [], [], _, _, h => by rw [h]; rfl
  | l, [], p :: r, h1, h2, h => by
    rw [h, body_cons]
    show spl c (c :: body c p r) = _
    rw [spl, if_pos rfl, spl_body c _ p r (h2 p (by simp)) (fun x hx => h2 x (by simp [hx])) rfl]
  | l, x :: q, r, h1, h2, h => by
    have hx : x ≠ c := fun e => h1 (by simp [e])
    rw [h]
    show spl c (x :: body c q r) = _
    rw [spl, if_neg hx, spl_body c _ q r (fun e => h1 (by simp [e])) h2 rfl]
  termination_by l q r => (r.length, q.length)
end PathLaw

/-! Plain laws for QueriesComeBack: words of a query, pairs that are written and read, pairs in order. -/
namespace QueryLaw
open PathLaw RecLaw Go.Lib
/-- A byte of a word in a query. -/
def qc (c : UInt8) : List UInt8 := if c = 32 then [43] else if freeB c then [c] else pctB c
def qw (s : List UInt8) : List UInt8 := s.flatMap qc
/-! Pairs -/
abbrev Pr : Type := List UInt8 × List UInt8
def wr (p : Pr) : List UInt8 := qw p.1 ++ 61 :: qw p.2
/-! Order -/
end QueryLaw
/-! Plain laws for QueriesComeBack: tokens, their letters turned small or great; bounds of queries. -/
namespace QueryLaw
open PathLaw RecLaw Go.Lib
end QueryLaw
namespace Go.Proofs.YtklednomnpghcaaGreatDoor
open Go.Ev Go.RowKit RecLaw PathLaw

/-- A string of bytes. -/
def bl (l : List UInt8) : ByteArray := ⟨l.toArray⟩
def strV (l : List UInt8) : Value := .string (bl l)
theorem bl_list (l : List UInt8) : (bl l).data.toList = l := by simp [bl]
theorem bl_self (s : ByteArray) : bl s.data.toList = s := by
  obtain ⟨⟨l⟩⟩ := s
  rfl
theorem bl_size (l : List UInt8) : (bl l).size = l.length := by
  show (bl l).data.size = _
  simp [bl]
theorem bl_cut (l : List UInt8) (a b : Nat) (h : b ≤ l.length) : (bl l).extract a b = bl ((l.take b).drop a) := by
  rw [← bl_self ((bl l).extract a b)]
  congr 1
  have : ((bl l).extract a b).data.toList = ((bl l).data.extract a b).toList := by
    rw [ByteArray.data_extract]
  rw [this]
  simp [bl, List.extract_eq_take_drop, List.drop_take]
theorem bl_app (a b : List UInt8) : bl a ++ bl b = bl (a ++ b) := by
  rw [← bl_self (bl a ++ bl b)]
  congr 1
def hdB (c : ByteArray) : UInt8 := c.data.toList.getD 0 0
theorem one_eq {c : ByteArray} (h : Nat.beq c.size 1 = true) : c = ⟨#[hdB c]⟩ := by
  have h := Nat.eq_of_beq_eq_true h
  obtain ⟨⟨l⟩⟩ := c
  match l, h with
  | [x], _ => rfl
theorem wrap1 {i : Nat} (h : i ≤ 1000000) : IntKind.i64.wrap ((i : Int) + 1) = ((i + 1 : Nat) : Int) := by rw [wrap_id _ (by omega) (by omega)]; rfl
noncomputable def spIxz (f : FuncId) (args : Array Value) (h : AH) : Option (Bool × Value × AH) :=
  cond (Nat.beq f 170) (match args with
    | ⟨[.string s, .string c]⟩ => some (Nat.beq c.size 1, .int .i64 (Lib.indexByte s.data.toList (hdB c)), h)
    | _ => none) none
theorem spIxz_ok : SpOK spIxz := by
  intro f args h v h' hs
  unfold spIxz at hs
  obtain ⟨hf, hs2⟩ := cond_some hs
  clear hs
  have := Nat.eq_of_beq_eq_true hf
  subst this
  split at hs2
  · injection hs2 with hs
    injection hs with hb hs
    injection hs with hv hh
    subst hv hh
    rename_i s c
    rw [one_eq hb]
    exact ⟨flat_call (args := [.string s, .string ⟨#[hdB c]⟩]) rfl rfl fun w => (Tryz.strings_Index_one s (hdB c) w).mono fun e w' ⟨h1, h2⟩ => ⟨h1, h2 ▸ Below.refl _ _⟩, Nat.le_refl _⟩
  · cases hs2
noncomputable def spCn (f : FuncId) (args : Array Value) (h : AH) : Option (Bool × Value × AH) :=
  cond (Nat.beq f 169) (match args with
    | ⟨[.string s, .string c]⟩ => some (Nat.beq c.size 1, .int .i64 (Lib.countByte s.data.toList (hdB c)), h)
    | _ => none) none
theorem spCn_ok : SpOK spCn := by
  intro f args h v h' hs
  unfold spCn at hs
  obtain ⟨hf, hs2⟩ := cond_some hs
  clear hs
  have := Nat.eq_of_beq_eq_true hf
  subst this
  split at hs2
  · injection hs2 with hs
    injection hs with hb hs
    injection hs with hv hh
    subst hv hh
    rename_i s c
    rw [one_eq hb]
    exact ⟨flat_call (args := [.string s, .string ⟨#[hdB c]⟩]) rfl rfl fun w => (Tryz.strings_Count_one s (hdB c) w).mono fun e w' ⟨h1, h2⟩ => ⟨h1, h2 ▸ Below.refl _ _⟩, Nat.le_refl _⟩
  · cases hs2

/-! Join of a row -/
/-! genSplit -/
noncomputable def SB2 : SC := ⟨idn, spOr spIxz spCn, true, true⟩
theorem SB2_ok : SB2.cfg.OK Tryz.prog := (spIxz_ok.or spCn_ok).cfg
def gH (cs : List Value) : AH := ⟨1, 1, [(0, .cells ⟨cs⟩ 9 (0, 0))]⟩
def ixS (c : UInt8) (s : ByteArray) : Int := Lib.indexByte s.data.toList c
theorem gsr (c : UInt8) (s : ByteArray) (n i : Int) (m : Nat) (cs : List Value) (B : List Value → AH → Prop) (Q : AExit → List Value → AH → Prop) :
    once 0 Tryz.prog SB2 [] noHooks 600 66 [0, 1, 2, 3, 10, 9] [0] [0, 10, 9] [0] (oneLoop (codeOf Tryz.f127) 11) [.string s, .string ⟨#[c]⟩, .int .i64 0, .int .i64 n, .int .i64 i, .slice (some ⟨0, 0, none⟩) m m] (gH cs) B Q =
      bif decide (i < n) then bif decide (ixS c s < 0) then NoNames (.cells ⟨cs⟩ 9 (0, 0)) ∧ Q (.exit 0) [.string s, .int .i64 i, .slice (some ⟨0, 0, none⟩) m m] (gH cs) else
        bif decide (0 ≤ IntKind.i64.wrap (ixS c s + 0)) && decide (IntKind.i64.wrap (ixS c s + 0) ≤ (s.size : Int)) then bif decide (0 ≤ i) && decide (i < (m : Int)) then bif (0 + i.toNat * 1 + 1).ble (Array.mk cs).size && true && true then
        bif decide (0 ≤ IntKind.i64.wrap (ixS c s + 1)) && decide (IntKind.i64.wrap (ixS c s + 1) ≤ (s.size : Int)) && decide ((s.size : Int) ≤ (s.size : Int)) then
          NoNames (.cells (putAll ⟨cs⟩ (0 + i.toNat * 1) [.string (s.extract 0 (IntKind.i64.wrap (ixS c s + 0)).toNat)]) 9 (0, 0)) ∧
          B [.string (s.extract (IntKind.i64.wrap (ixS c s + 1)).toNat s.size), .string ⟨#[c]⟩, .int .i64 0, .int .i64 n, .int .i64 (IntKind.i64.wrap (i + 1)), .slice (some ⟨0, 0, none⟩) m m] ⟨1, 1, [(0, .cells (putAll ⟨cs⟩ (0 + i.toNat * 1) [.string (s.extract 0 (IntKind.i64.wrap (ixS c s + 0)).toNat)]) 9 (0, 0))]⟩
        else False else False else False else False
      else NoNames (.cells ⟨cs⟩ 9 (0, 0)) ∧ Q (.exit 0) [.string s, .int .i64 i, .slice (some ⟨0, 0, none⟩) m m] (gH cs) := by kernel_rfl
theorem nnS (D : List (List UInt8)) (t : TypeId) (fr : Nat × Nat) : NoNames (.cells ⟨D.map strV⟩ t fr) := by
  intro v hv
  obtain ⟨d, _, rfl⟩ := List.mem_map.1 (show v ∈ D.map strV from hv)
  rfl
theorem put_one {D : List (List UInt8)} {i : Nat} (q : List UInt8) (hi : i < D.length) : putAll ⟨D.map strV⟩ (0 + (i : Int).toNat * 1) [strV q] = ⟨(D.set i q).map strV⟩ := by
  rw [putAll_eq _ _ _ (by show 0 + (i : Int).toNat * 1 + 1 ≤ (D.map strV).length; rw [List.length_map]; omega)]
  show (⟨(D.map strV).take (0 + i * 1) ++ [strV q] ++ (D.map strV).drop (0 + i * 1 + 1)⟩ : Array Value) = _
  rw [Nat.zero_add, Nat.mul_one, List.map_set, List.set_eq_take_append_cons_drop, if_pos (by rw [List.length_map]; exact hi)]
  simp
theorem gs_loop {c : UInt8} {n : Nat} (hn : n ≤ 1000) : ∀ (r : List (List UInt8)) (q : List UInt8) (i : Nat) (D : List (List UInt8)), c ∉ q → (∀ p ∈ r, c ∉ p) → i + r.length = n → D.length = n + 1 → (body c q r).length ≤ 100000 →
    ∃ (D' : List (List UInt8)) (q2 : List UInt8), D'.length = n + 1 ∧ D'.take n ++ [q2] = D.take i ++ q :: r ∧ ∀ K : AExit → List Value → AH → Prop,
      K (.exit 0) [strV q2, .int .i64 (n : Int), .slice (some ⟨0, 0, none⟩) (n + 1) (n + 1)] (gH (D'.map strV)) →
      iter 0 Tryz.prog SB2 [] noHooks 600 66 [0, 1, 2, 3, 10, 9] [0] [0, 10, 9] [0] (oneLoop (codeOf Tryz.f127) 11) (r.length + 1) [.string (bl (body c q r)), .string ⟨#[c]⟩, .int .i64 0, .int .i64 (n : Int), .int .i64 (i : Int), .slice (some ⟨0, 0, none⟩) (n + 1) (n + 1)] (gH (D.map strV)) K
  | [], q, i, D, h1, h2, h3, h4, h5 => by
    have hi : i = n := by simpa using h3
    subst hi
    refine ⟨D, q, h4, rfl, fun K hK => ?_⟩
    rw [body_nil]
    exact (gsr _ _ _ _ _ _ _ K).mpr (pick_f (by simp) ⟨nnS D _ _, hK⟩)
  | p :: r, q, i, D, h1, h2, h3, h4, h5 => by
    have hb := body_cons c q p r
    have hlen : (body c q (p :: r)).length = q.length + 1 + (body c p r).length := by rw [hb]; simp; omega
    have h3' : i + 1 + r.length = n := by rw [List.length_cons] at h3; omega
    obtain ⟨D', q2, y1, y2, y3⟩ := gs_loop hn r p (i + 1) (D.set i q) (h2 p (by simp)) (fun x hx => h2 x (by simp [hx])) h3' (by rw [List.length_set, h4]) (by omega)
    have hset : (D.set i q).take (i + 1) = D.take i ++ [q] := by
      rw [List.take_add_one, List.getElem?_set_self (by omega), List.take_set_of_le (Nat.le_refl _)]
      rfl
    refine ⟨D', q2, y1, by rw [y2, hset]; simp, fun K hK => ?_⟩
    have hix : ixS c (bl (body c q (p :: r))) = (q.length : Int) := by
      unfold ixS
      rw [bl_list, hb]
      exact idx_at _ h1
    have hsz := bl_size (body c q (p :: r))
    have w0 : IntKind.i64.wrap ((q.length : Int) + 0) = (q.length : Int) := by rw [Int.add_zero]; exact wrap_id _ (by omega) (by omega)
    have w1 : IntKind.i64.wrap ((q.length : Int) + 1) = ((q.length + 1 : Nat) : Int) := wrap1 (by omega)
    have c1 : (bl (body c q (p :: r))).extract 0 (q.length : Int).toNat = bl q := by
      show (bl (body c q (p :: r))).extract 0 q.length = _
      rw [bl_cut _ _ _ (by omega), hb]
      simp
    have c2 : (bl (body c q (p :: r))).extract ((q.length + 1 : Nat) : Int).toNat (bl (body c q (p :: r))).size = bl (body c p r) := by
      show (bl (body c q (p :: r))).extract (q.length + 1) (bl (body c q (p :: r))).size = _
      rw [hsz, bl_cut _ _ _ (Nat.le_refl _), List.take_length, hb]
      congr 1
      rw [List.drop_append, List.drop_of_length_le (by omega), List.nil_append, Nat.add_sub_cancel_left]
      rfl
    refine (gsr _ _ _ _ _ _ _ K).mpr ?_
    rw [hix, w0, w1, c1, c2]
    refine pick_t (decide_eq_true (by omega)) (pick_f (decide_eq_false (by omega)) (need_mk (by simp; omega) (need_mk (by simp; omega) (need_mk ?_ (need_mk (by simp; omega) ?_)))))
    · have : (0 + (i : Int).toNat * 1 + 1).ble (Array.mk (D.map strV)).size = true := by
        rw [Nat.ble_eq]
        show 0 + (i : Int).toNat * 1 + 1 ≤ (D.map strV).length
        rw [List.length_map]; omega
      rw [this]; rfl
    · have hp := put_one (D := D) (i := i) q (by omega)
      have hp : putAll ⟨D.map strV⟩ (0 + (i : Int).toNat * 1) [.string (bl q)] = ⟨(D.set i q).map strV⟩ := hp
      rw [hp, wrap1 (by omega)]
      exact ⟨nnS _ _ _, y3 K hK⟩
def sC : Array Value := #[.string ⟨#[]⟩]
noncomputable def nS (c : UInt8) (s : ByteArray) : Int := if IntKind.i64.wrap ((s.size : Int) + 1) < IntKind.i64.wrap ((Lib.countByte s.data.toList c : Int) + 1) then IntKind.i64.wrap ((s.size : Int) + 1) else IntKind.i64.wrap ((Lib.countByte s.data.toList c : Int) + 1)
noncomputable def gsE (s2 : ByteArray) (cs : List Value) (k m : Nat) (Q : Value → AH → Prop) : Prop :=
  bif decide ((k : Int) < (m : Int)) then bif (0 + k * 1 + 1).ble (Array.mk cs).size && true && true then bif decide (0 ≤ IntKind.i64.wrap ((k : Int) + 1)) && decide (IntKind.i64.wrap ((k : Int) + 1) ≤ (m : Int)) then
    bif Nat.beq 0 m then Q (.slice (some ⟨0, 0, none⟩) ((IntKind.i64.wrap ((k : Int) + 1)).toNat - 0) (m - 0)) ⟨1, 0, [(0, .cells (putAll ⟨cs⟩ (0 + k * 1) [.string s2]) 9 (1, 1))]⟩
    else Q (.slice (some ⟨0, 0, none⟩) ((IntKind.i64.wrap ((k : Int) + 1)).toNat - 0) (m - 0)) ⟨1, 0, [(0, .cells (putAll ⟨cs⟩ (0 + k * 1) [.string s2]) 9 (1, 1))]⟩
  else False else False else False
theorem gsf (c : UInt8) (s s2 : ByteArray) (m k : Nat) (cs : List Value) (C : List Value → AH → Prop) (Q : Value → AH → Prop) :
    tfn Tryz.prog SB2 [] (hook1 11 (thenLSz (hookLS 0 66 [0, 1, 2, 3, 10, 9] [0] [0, 10, 9] (fun vals h K => C vals h ∧ K (.exit 0) [.string s2, .int .i64 (k : Int), .slice (some ⟨0, 0, none⟩) m m] (gH cs))) (markG 9))) 600 [] Tryz.f127 [.string s, .string ⟨#[c]⟩, .int .i64 0, .int .i64 (-1)] h0 Q =
      bif decide (0 ≤ nS c s) && decide (nS c s ≤ nS c s) && decide (nS c s ≤ 9223372036854775807) && ((nS c s).toNat * 16).ble 140737488355328 && (((nS c s).toNat * 1).beq 0 || true) then
        NoNames (.cells ⟨zlist sC ((nS c s).toNat * 1)⟩ 9 (0, 0)) ∧ C [.string s, .string ⟨#[c]⟩, .int .i64 0, .int .i64 (IntKind.i64.wrap (nS c s - 1)), .int .i64 0, .slice (some ⟨0, 0, none⟩) (nS c s).toNat (nS c s).toNat] (gH (zlist sC ((nS c s).toNat * 1))) ∧ gsE s2 cs k m Q
      else False := by kernel_rfl
theorem zl_rep (n : Nat) : zlist sC n = (List.replicate n ([] : List UInt8)).map strV := by
  have e : (fun i => sC[i % sC.size]?.getD undef) = fun _ : Nat => strV [] := by
    funext i
    have : i % sC.size = 0 := Nat.mod_one i
    rw [this]
    rfl
  show (List.range n).map (fun i => sC[i % sC.size]?.getD undef) = _
  rw [e, List.map_const', List.length_range, List.map_replicate]
theorem oneGS : (loopAt (codeOf Tryz.f127) 11).length = 1 := by kernel_rfl
theorem someGS : Tryz.f127.body.isSome = true := by kernel_rfl
theorem strV_map (D : List (List UInt8)) : (D.map bl).map Value.string = D.map strV := by rw [List.map_map]; rfl
theorem freezeS {p : Nat} {P : Program} {h : AH} {b : Nat} {t : TypeId} {fr : Nat × Nat} (D : List (List UInt8)) {m : Nat} (hm : D.length = m) (hb : h.get b = some (.cells ⟨D.map strV⟩ t fr)) :
    Weak p P #[.slice (some ⟨b, 0, none⟩) m m] h #[fz ⟨D.map strV⟩] (h.del b) := by
  have := freeze1 (p := p) (P := P) (h := h) (b := b) (t := t) (fr := fr) (D.map bl) (m := m) (by rw [List.length_map, hm]) (by rw [strV_map]; exact hb)
  rw [strV_map] at this
  exact this
/-- What genSplit hands back, as a row of its own. -/
theorem gs_row {c : UInt8} {q : List UInt8} {r : List (List UInt8)} (h1 : c ∉ q) (h2 : ∀ p ∈ r, c ∉ p) (h3 : r.length ≤ 1000) (h4 : (body c q r).length ≤ 100000) :
    FnOK 0 Tryz.prog 127 ⟨[.string (bl (body c q r)), .string ⟨#[c]⟩, .int .i64 0, .int .i64 (-1)]⟩ h0 (fun v h => v = .slice (some ⟨0, 0, none⟩) (r.length + 1) (r.length + 1) ∧ h.get 0 = some (.cells ⟨(q :: r).map strV⟩ 9 (1, 1))) := by
  obtain ⟨D, q2, y1, y2, y3⟩ := gs_loop (n := r.length) h3 r q 0 (List.replicate (r.length + 1) []) h1 h2 (by omega) (by simp) h4
  have hcnt : (Lib.countByte (bl (body c q r)).data.toList c : Int) = (r.length : Int) := by rw [bl_list, count_body r q h1 h2]
  have hsz : (bl (body c q r)).size = (body c q r).length := bl_size _
  have hle : r.length ≤ (body c q r).length := by
    have := count_body r q h1 h2
    unfold Lib.countByte at this
    rw [← this]
    exact List.count_le_length
  have hn : nS c (bl (body c q r)) = ((r.length + 1 : Nat) : Int) := by
    unfold nS
    rw [hcnt, hsz, wrap1 (i := r.length) (by omega), wrap1 (i := (body c q r).length) (by omega)]
    split
    · omega
    · rfl
  have hz : zlist sC (((r.length + 1 : Nat) : Int).toNat * 1) = (List.replicate (r.length + 1) ([] : List UInt8)).map strV := by
    rw [Nat.mul_one]; exact zl_rep _
  have hw : IntKind.i64.wrap (((r.length + 1 : Nat) : Int) - 1) = (r.length : Int) := by rw [wrap_id _ (by omega) (by omega)]; omega
  have hsp : LSpec 0 Tryz.prog 66 (oneLoop (codeOf Tryz.f127) 11) (thenLSz (hookLS 0 66 [0, 1, 2, 3, 10, 9] [0] [0, 10, 9] (fun vals h K => (vals = [.string (bl (body c q r)), .string ⟨#[c]⟩, .int .i64 0, .int .i64 (r.length : Int), .int .i64 0, .slice (some ⟨0, 0, none⟩) (r.length + 1) (r.length + 1)] ∧ h = gH ((List.replicate (r.length + 1) ([] : List UInt8)).map strV)) ∧
      K (.exit 0) [.string (bl q2), .int .i64 (r.length : Int), .slice (some ⟨0, 0, none⟩) (r.length + 1) (r.length + 1)] (gH (D.map strV)))) (markG 9)) := by
    refine thenLSz_ok (hook_ok (G := []) (L := noHooks) (f := 600) (sameX := [0]) SB2_ok mixed (by decide) (loops_none _ _ _ _) ?_) (markG_ok _ _ _ _)
    rintro vals h K ⟨⟨rfl, rfl⟩, hK⟩
    exact ⟨_, y3 K hK⟩
  refine FnOK.ttree SB2_ok mixed Tryz.func127 someGS (loops_one oneGS hsp) (gsf c (bl (body c q r)) (bl q2) (r.length + 1) r.length (D.map strV) _ _) ?_
  rw [hn, hz, hw]
  refine need_mk ?_ ⟨nnS _ _ _, ⟨rfl, rfl⟩, ?_⟩
  · simp only [Bool.and_eq_true, decide_eq_true_eq, Nat.ble_eq, Bool.or_true]
    refine ⟨⟨⟨⟨?_, ?_⟩, ?_⟩, ?_⟩, trivial⟩ <;> omega
  · have w2 := wrap1 (i := r.length) (by omega)
    unfold gsE
    rw [w2]
    have hpo := put_one (D := D) (i := r.length) q2 (by omega)
    have hpo : putAll ⟨D.map strV⟩ (0 + r.length * 1) [.string (bl q2)] = ⟨(D.set r.length q2).map strV⟩ := hpo
    rw [hpo]
    have hD : D.set r.length q2 = q :: r := by
      rw [List.set_eq_take_append_cons_drop, if_pos (by omega), List.drop_of_length_le (by omega), y2]
      simp
    rw [hD]
    refine need_mk (decide_eq_true (by omega)) (need_mk ?_ (need_mk (by simp; omega) ?_))
    · have : (0 + r.length * 1 + 1).ble (Array.mk (D.map strV)).size = true := by
        rw [Nat.ble_eq]
        show 0 + r.length * 1 + 1 ≤ (D.map strV).length
        rw [List.length_map]; omega
      rw [this]; rfl
    · cases Nat.beq 0 (r.length + 1) <;> exact ⟨rfl, rfl⟩
theorem gs_fn {c : UInt8} {q : List UInt8} {r : List (List UInt8)} (h1 : c ∉ q) (h2 : ∀ p ∈ r, c ∉ p) (h3 : r.length ≤ 1000) (h4 : (body c q r).length ≤ 100000) :
    FnOK 0 Tryz.prog 127 ⟨[.string (bl (body c q r)), .string ⟨#[c]⟩, .int .i64 0, .int .i64 (-1)]⟩ h0 (fun v _ => v = fz ⟨(q :: r).map strV⟩) := by
  refine FnOK.weak1 ((gs_row h1 h2 h3 h4).mono ?_)
  rintro v g ⟨rfl, hg⟩
  exact ⟨_, _, freezeS (h := g) (b := 0) (q :: r) (by simp) hg, rfl⟩
theorem spl_len (c : UInt8) : ∀ l : List UInt8, (spl c l).length ≤ l.length + 1
  | [] => by simp [spl]
  | x :: l => by
    have := spl_len c l
    unfold spl
    split
    · simp; omega
    · split
      · simp
      · rename_i q r hq; rw [hq] at this; simp at this ⊢; omega
theorem sp_fn (c : UInt8) (l : List UInt8) (h : l.length ≤ 1000) : FnOK 0 Tryz.prog 127 ⟨[.string (bl l), .string ⟨#[c]⟩, .int .i64 0, .int .i64 (-1)]⟩ h0 (fun v _ => v = fz ⟨(spl c l).map strV⟩) := by
  obtain ⟨q, r, h1, h2, h3⟩ := split_ex c l
  have e := spl_body c l q r h2 h3 h1
  have hl := spl_len c l
  rw [e] at hl ⊢
  simp only [List.length_cons] at hl
  rw [h1] at h ⊢
  exact gs_fn h2 h3 (by rw [← h1] at h; omega) (by omega)
end Go.Proofs.YtklednomnpghcaaGreatDoor
