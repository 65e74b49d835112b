/-
  Draws of a stream, and 'ready', as specifications for the symbolic evaluation: the stream's next number is some number below the bound, the same in every world.
-/
import Derived.Test.YtklednomnpghcaaGreatDoorProg
import Derived.Test.YtklednomnpghcaaGreatDoorEvD
import Derived.KernelRfl
import Derived.IntWalk
namespace Go.Proofs.YtklednomnpghcaaGreatDoor
open Go.Ev Go.RowKit

theorem mixed : Tryz.prog.follows .mixedOrders = true := by kernel_rfl
theorem noEscape (x : Value) (w : World) : (callFunc 183 #[x]).run Tryz.prog w = .ok (.value x) w := by kernel_rfl
def idn (f : FuncId) : Bool := Nat.beq f 183
theorem wrap_id (n : Int) (h1 : -9223372036854775808 ≤ n) (h2 : n ≤ 9223372036854775807) : IntKind.i64.wrap n = n :=
  IntWalk.i64_in n (by omega)

theorem cut_mk {b : Bool} {X : Prop} (h1 : b = false) (h2 : X) : cond b False X := by rw [h1]; exact h2

/-- x, below n. -/
def belowV (x n : Int) : Int := if x.tmod n < 0 then x.tmod n + n else x.tmod n
theorem belowV_in (x n : Int) (hn : 1 ≤ n) : 0 ≤ belowV x n ∧ belowV x n < n := by
  have h1 := Int.tmod_lt_of_pos x (show 0 < n by omega)
  have h2 := Int.lt_tmod_of_pos x (show 0 < n by omega)
  unfold belowV
  split <;> omega

def S0 : SC := ⟨fun _ => false, fun _ _ _ => none, true, false⟩
theorem S0_ok : S0.cfg.OK Tryz.prog := ⟨fun _ h => (by cases h), fun _ _ _ _ _ hs => (by cases hs)⟩

theorem below_some : Tryz.f62.body.isSome = true := by kernel_rfl
theorem below_tree (x n : Int) (Q : Value → AH → Prop) : sfn Tryz.prog S0 [] 20 [] Tryz.f62 [.int .i64 x, .int .i64 n] h0 Q =
    cond (decide (n < 1)) (Q (Value.int .i64 0) h0) (cond (!decide (n = 0)) (cond (decide (x.tmod n < 0)) (Q (.int .i64 (IntKind.i64.wrap (x.tmod n + n))) h0) (Q (.int .i64 (x.tmod n)) h0)) False) := by kernel_rfl
theorem below_fn (x n : Int) (h1 : 1 ≤ n) (h2 : n ≤ 4611686018427387904) : FnOK 0 Tryz.prog 62 ⟨[.int .i64 x, .int .i64 n]⟩ h0 (fun v _ => v = .int .i64 (belowV x n)) := by
  have k1 := Int.tmod_lt_of_pos x (show 0 < n by omega)
  have k2 := Int.lt_tmod_of_pos x (show 0 < n by omega)
  refine FnOK.tree S0_ok mixed Tryz.func62 below_some (below_tree x n _) ?_
  refine cond_mk (fun h => by simp at h; omega) (fun _ => need_mk (by simp; omega) (cond_mk (fun h => ?_) (fun h => ?_)))
  · have h : x.tmod n < 0 := by simpa using h
    rw [wrap_id _ (by omega) (by omega), belowV, if_pos h]
  · have h : ¬ x.tmod n < 0 := by simpa using h
    rw [belowV, if_neg h]

def spBelow (f : FuncId) (args : Array Value) (h : AH) : Option (Bool × Value × AH) :=
  cond (Nat.beq f 62) (match args with
    | ⟨[.int .i64 x, .int .i64 n]⟩ => some (decide (1 ≤ n) && decide (n ≤ 4611686018427387904), .int .i64 (belowV x n), h)
    | _ => none) none
def SB : SC := ⟨idn, spBelow, true, false⟩

/-- What an entry of a specification owes. -/
def SpOK (sp : Ev.Spec) : Prop := ∀ f args h v h', sp f args h = some (true, v, h') → CallOK Tryz.prog f args h v h' ∧ h.next ≤ h'.next

theorem SpOK.cfg {sp : Ev.Spec} {e g : Bool} (h : SpOK sp) : (SC.mk idn sp e g).cfg.OK Tryz.prog := by
  refine ⟨fun g hg x w => (by have hg : Nat.beq g 183 = true := hg; have := Nat.eq_of_beq_eq_true hg; subst this; exact noEscape x w), fun f args g v h' hs => ?_⟩
  simp only [SC.cfg] at hs
  split at hs
  · rename_i b u k hsp
    obtain ⟨hb, hs⟩ := cond_some hs
    cases hs
    subst hb
    exact h _ _ _ _ _ hsp
  · cases hs

theorem spBelow_ok : SpOK spBelow := by
  intro f args h v h' hs
  unfold spBelow at hs
  obtain ⟨hf, hs2⟩ := cond_some hs
  clear hs
  have hs := hs2
  clear hs2
  have := Nat.eq_of_beq_eq_true hf
  subst this
  split at hs
  · rename_i x n
    injection hs with hs
    injection hs with hb hs
    injection hs with hv hh
    subst hv hh
    simp only [Bool.and_eq_true, decide_eq_true_eq] at hb
    exact ⟨FnOK.pure (below_fn x n hb.1 hb.2) rfl rfl h, Nat.le_refl _⟩
  · cases hs

/-- The number at a place of the input. -/
theorem ints_getD (zs : List Int) (i : Nat) (h : i < zs.length) : (intsV zs).toList.getD i undef = .int .i64 (zs.getD i 0) := by
  simp [intsV, List.getD, h]

theorem next_some : Tryz.f28.body.isSome = true := by kernel_rfl
def strm (xs : Array Value) (n : Int) : Obj := .cells ⟨[fz xs, .int .i64 n]⟩ 25 (0, 0)
theorem next_tree (zs : List Int) (n at_ : Int) (Q : Value → AH → Prop) : sfn Tryz.prog SB [] 20 [] Tryz.f28 [.pointer (some ⟨0, 0, none⟩), .int .i64 n] (h1 (strm (intsV zs) at_)) Q =
  cond ((((intsV zs).size : Nat) : Int) == 0)
    (cond (decide (1 ≤ n) && decide (n ≤ 4611686018427387904)) (Q (.int .i64 (belowV (IntKind.i64.wrap (IntKind.i64.wrap (at_ + 1) * 7919)) n)) ⟨1, 0, [(0, strm (intsV zs) (IntKind.i64.wrap (at_ + 1)))]⟩) False)
    (cond (!decide ((((intsV zs).size : Nat) : Int) = 0)) (cond (!decide ((((intsV zs).size : Nat) : Int) = 0))
      (cond (decide (0 ≤ (IntKind.i64.wrap (IntKind.i64.wrap (at_ + 1) - 1)).tmod (intsV zs).size) && decide ((IntKind.i64.wrap (IntKind.i64.wrap (at_ + 1) - 1)).tmod (intsV zs).size < (intsV zs).size) &&
          Nat.beq (Value.int .i64 (toInt ((intsV zs).toList.getD ((IntKind.i64.wrap (IntKind.i64.wrap (at_ + 1) - 1)).tmod (intsV zs).size).toNat undef))).cells.size 1)
        ((intsV zs).toList.getD ((IntKind.i64.wrap (IntKind.i64.wrap (at_ + 1) - 1)).tmod (intsV zs).size).toNat undef =
            Value.int .i64 (toInt ((intsV zs).toList.getD ((IntKind.i64.wrap (IntKind.i64.wrap (at_ + 1) - 1)).tmod (intsV zs).size).toNat undef)) ∧
          cond (decide (1 ≤ n) && decide (n ≤ 4611686018427387904))
            (Q (.int .i64 (belowV (IntKind.i64.wrap (belowV (toInt ((intsV zs).toList.getD ((IntKind.i64.wrap (IntKind.i64.wrap (at_ + 1) - 1)).tmod (intsV zs).size).toNat undef)) 1073741824 +
                IntKind.i64.wrap (IntKind.i64.wrap ((IntKind.i64.wrap (IntKind.i64.wrap (at_ + 1) - 1)).tdiv (intsV zs).size) * IntKind.i64.wrap (7919 + (IntKind.i64.wrap (IntKind.i64.wrap (at_ + 1) - 1)).tmod (intsV zs).size)))) n))
              ⟨1, 0, [(0, strm (intsV zs) (IntKind.i64.wrap (at_ + 1)))]⟩) False) False) False) False) := by kernel_rfl

set_option maxRecDepth 100000 in
/-- The stream's next number, and nothing else. -/
theorem next_fix (zs : List Int) (n at_ : Int) (h1 : 0 ≤ at_) (h2 : at_ ≤ 1000000) (h3 : 1 ≤ n) (h4 : n ≤ 4611686018427387904) :
    ∃ r : Int, (0 ≤ r ∧ r < n) ∧ FnOK 1 Tryz.prog 28 ⟨[.pointer (some ⟨0, 0, none⟩), .int .i64 n]⟩ (Ev.h1 (strm (intsV zs) at_)) (fun u g => u = .int .i64 r ∧ g.get 0 = some (strm (intsV zs) (at_ + 1))) := by
  have hn : (decide (1 ≤ n) && decide (n ≤ 4611686018427387904)) = true := by simp [h3, h4]
  have w1 : IntKind.i64.wrap (at_ + 1) = at_ + 1 := wrap_id _ (by omega) (by omega)
  have w2 : IntKind.i64.wrap (at_ + 1 - 1) = at_ := by rw [wrap_id _ (by omega) (by omega)]; omega
  obtain ⟨v, h', ⟨⟨r, rfl, hr⟩, hh⟩, hF⟩ := FnOK.fix (p := 1) (Q := fun v h' => (∃ r : Int, v = .int .i64 r ∧ 0 ≤ r ∧ r < n) ∧ h'.get 0 = some (strm (intsV zs) (at_ + 1))) spBelow_ok.cfg mixed Tryz.func28 next_some (next_tree zs n at_ _) (by
    rw [w1, w2]
    have hsz : (intsV zs).size = zs.length := by simp [intsV]
    rw [hsz]
    refine cond_mk (fun _ => need_mk hn ⟨⟨_, rfl, belowV_in _ _ h3⟩, rfl⟩) (fun hz => ?_)
    have hz : zs.length ≠ 0 := by simpa using hz
    have hz' : (!decide ((zs.length : Int) = 0)) = true := by simp; simpa using hz
    refine need_mk hz' (need_mk hz' ?_)
    have m0 := Int.tmod_nonneg (zs.length : Int) h1
    have m1 := Int.tmod_lt_of_pos at_ (show (0 : Int) < zs.length by omega)
    refine need_mk (by simp only [Value.cells]; simp [m0, m1]) ⟨?_, need_mk hn ⟨⟨_, rfl, belowV_in _ _ h3⟩, rfl⟩⟩
    rw [ints_getD _ _ (by omega)]
    rfl)
  exact ⟨r, hr, hF.mono fun u g ⟨q1, q2⟩ => ⟨q1, by rw [q2]; exact hh⟩⟩

open Classical in
/-- The number that the stream hands out. -/
noncomputable def nextR (xs : Array Value) (at_ n : Int) : Int :=
  if h : ∃ zs, xs = intsV zs ∧ 0 ≤ at_ ∧ at_ ≤ 1000000 ∧ 1 ≤ n ∧ n ≤ 4611686018427387904 then Classical.choose (next_fix (Classical.choose h) n at_ (Classical.choose_spec h).2.1 (Classical.choose_spec h).2.2.1 (Classical.choose_spec h).2.2.2.1 (Classical.choose_spec h).2.2.2.2) else 0

theorem nextR_spec (zs : List Int) (n at_ : Int) (h1 : 0 ≤ at_) (h2 : at_ ≤ 1000000) (h3 : 1 ≤ n) (h4 : n ≤ 4611686018427387904) :
    (0 ≤ nextR (intsV zs) at_ n ∧ nextR (intsV zs) at_ n < n) ∧ FnOK 1 Tryz.prog 28 ⟨[.pointer (some ⟨0, 0, none⟩), .int .i64 n]⟩ (Ev.h1 (strm (intsV zs) at_))
      (fun u g => u = .int .i64 (nextR (intsV zs) at_ n) ∧ g.get 0 = some (strm (intsV zs) (at_ + 1))) := by
  have h : ∃ ys, intsV zs = intsV ys ∧ 0 ≤ at_ ∧ at_ ≤ 1000000 ∧ 1 ≤ n ∧ n ≤ 4611686018427387904 := ⟨zs, rfl, h1, h2, h3, h4⟩
  have e : nextR (intsV zs) at_ n = Classical.choose (next_fix (Classical.choose h) n at_ (Classical.choose_spec h).2.1 (Classical.choose_spec h).2.2.1 (Classical.choose_spec h).2.2.2.1 (Classical.choose_spec h).2.2.2.2) := by
    unfold nextR
    rw [dif_pos h]
  have hc := Classical.choose_spec (next_fix (Classical.choose h) n at_ (Classical.choose_spec h).2.1 (Classical.choose_spec h).2.2.1 (Classical.choose_spec h).2.2.2.1 (Classical.choose_spec h).2.2.2.2)
  rw [← e] at hc
  have e2 := (Classical.choose_spec h).1
  rw [← e2] at hc
  exact hc

def isI64 : Value → Bool
  | .int .i64 _ => true
  | _ => false
def allInts (xs : Array Value) : Bool := xs.toList.all isI64
theorem allInts_intsV (zs : List Int) : allInts (intsV zs) = true := by simp [allInts, intsV, isI64]
theorem intsV_of_all {xs : Array Value} (h : allInts xs = true) : ∃ zs, xs = intsV zs := by
  refine ⟨xs.toList.map toInt, ?_⟩
  apply Array.ext'
  simp only [intsV, List.map_map]
  have : ∀ l : List Value, l.all isI64 = true → l = l.map (Value.int .i64 ∘ toInt) := by
    intro l
    induction l with
    | nil => intro _; rfl
    | cons v l ih =>
      intro hl
      simp only [List.all_cons, Bool.and_eq_true] at hl
      rw [List.map_cons, ← ih hl.2]
      congr 1
      have h1 := hl.1
      unfold isI64 at h1
      split at h1
      · rfl
      · cases h1
  exact this _ h

def knownAt : List (Option Int) → Nat → Option Int
  | [], _ => none
  | x :: _, 0 => x
  | _ :: l, n + 1 => knownAt l n
/-- A draw: one that is told beforehand, or the number itself. -/
noncomputable def drawV (known : List (Option Int)) (xs : Array Value) (at_ n : Int) : Bool × Int :=
  match knownAt known at_.toNat with
  | some r => (decide (nextR xs at_ n = r), r)
  | none => (true, nextR xs at_ n)
noncomputable def spNext (known : List (Option Int)) (f : FuncId) (args : Array Value) (h : AH) : Option (Bool × Value × AH) :=
  cond (Nat.beq f 28) (match args with
    | ⟨[.pointer (some ⟨b, 0, none⟩), .int .i64 n]⟩ => match h.get b with
      | some (.cells ⟨[.func (.yield 0) xs ⟨[]⟩, .int .i64 at_]⟩ t (0, 0)) =>
        match drawV known xs at_ n with
        | (c, r) => some (Nat.beq t 25 && decide (0 ≤ at_) && decide (at_ ≤ 1000000) && decide (1 ≤ n) && decide (n ≤ 1000000000000) && c && allInts xs, .int .i64 r, h.set b (.cells ⟨[fz xs, .int .i64 (at_ + 1)]⟩ 25 (0, 0)))
      | _ => none
    | _ => none) none

theorem spNext_ok (known : List (Option Int)) : SpOK (spNext known) := by
  intro f args h v h' hs
  unfold spNext at hs
  obtain ⟨hf, hs2⟩ := cond_some hs
  clear hs
  have hs := hs2
  clear hs2
  have := Nat.eq_of_beq_eq_true hf
  subst this
  split at hs
  · rename_i b n
    split at hs
    · rename_i xs at_ t hg
      split at hs
      rename_i c r hd
      injection hs with hs
      injection hs with hb hs
      injection hs with hv hh
      subst hv hh
      simp only [Bool.and_eq_true, decide_eq_true_eq] at hb
      obtain ⟨⟨⟨⟨⟨⟨b0, b1⟩, b2⟩, b3⟩, b4⟩, b5⟩, b6⟩ := hb
      have b0 := Nat.eq_of_beq_eq_true b0
      subst b0
      obtain ⟨zs, rfl⟩ := intsV_of_all b6
      have hr : r = nextR (intsV zs) at_ n := by
        unfold drawV at hd
        split at hd
        · injection hd with h1 h2
          subst h1 h2
          exact (of_decide_eq_true b5).symm
        · injection hd with h1 h2
          exact h2.symm
      subst hr
      have hF := (nextR_spec zs n at_ b1 b2 b3 (by omega)).2
      refine ⟨?_, Nat.le_refl _⟩
      exact FnOK.ref (cs := ⟨[fz (intsV zs), .int .i64 at_]⟩) (cs' := ⟨[fz (intsV zs), .int .i64 (at_ + 1)]⟩) (args := [.int .i64 n]) hF rfl (by simp [p1, fz]) (by simp [p1, fz]) rfl hg
    · cases hs
  · cases hs

theorem none_ok : SpOK (fun _ _ _ => none) := fun _ _ _ _ _ hs => (by cases hs)
theorem ready_some : Tryz.f22.body.isSome = true := by kernel_rfl
theorem ready_tree : ffn Tryz.prog ⟨idn, fun _ _ _ => none, false, false⟩ [] 10000 [] Tryz.f22 [] h0 (fun v _ => v = .bool true) = (Value.bool true = .bool true) := by kernel_rfl
theorem ready_fn : FnOK 0 Tryz.prog 22 #[] h0 (fun u _ => u = .bool true) :=
  FnOK.ftree none_ok.cfg mixed Tryz.func22 ready_some ready_tree rfl

def spReady (f : FuncId) (args : Array Value) (h : AH) : Option (Bool × Value × AH) :=
  cond (Nat.beq f 22) (match args with
    | ⟨[]⟩ => some (true, .bool true, h)
    | _ => none) none
theorem spReady_ok : SpOK spReady := by
  intro f args h v h' hs
  unfold spReady at hs
  obtain ⟨hf, hs2⟩ := cond_some hs
  clear hs
  have hs := hs2
  clear hs2
  have := Nat.eq_of_beq_eq_true hf
  subst this
  split at hs
  · injection hs with hs
    injection hs with hb hs
    injection hs with hv hh
    subst hv hh
    exact ⟨FnOK.pure ready_fn rfl rfl h, Nat.le_refl _⟩
  · cases hs

/-- One specification, or another. -/
def spOr (a b : Ev.Spec) : Ev.Spec := fun f args h => match a f args h with
  | some r => some r
  | none => b f args h
theorem SpOK.or {a b : Ev.Spec} (ha : SpOK a) (hb : SpOK b) : SpOK (spOr a b) := by
  intro f args h v h' hs
  unfold spOr at hs
  split at hs
  · rename_i r hr
    cases hs
    exact ha _ _ _ _ _ hr
  · exact hb _ _ _ _ _ hs
end Go.Proofs.YtklednomnpghcaaGreatDoor
