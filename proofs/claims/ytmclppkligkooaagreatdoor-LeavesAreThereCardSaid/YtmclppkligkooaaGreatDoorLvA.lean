/-
  Paths as the program holds them: slices.Clone, behindPath.
-/
import Derived.Test.YtmclppkligkooaaGreatDoorVaH
import Derived.Test.YtmclppkligkooaaGreatDoorVaK
/-
  Values: plain laws: the paths to what has no parts.
-/
namespace ValLaw
/-- A step: named or not, the name, the place. -/
abbrev Stp := Bool × W × Int
/-- Where a value has no parts behind a path. -/
def At : (n : Nat) → T n → List Stp → Prop
  | 0, _, r => r = []
  | n + 1, v, [] => v.2.1 = [] ∧ v.2.2 = []
  | n + 1, v, s :: r => (∃ (i : Nat) (x : T n), s = (false, [], (i : Int)) ∧ v.2.1[i]? = some x ∧ At n x r) ∨ (∃ (i : Nat) (p : W × T n), s = (true, p.1, 0) ∧ v.2.2[i]? = some p ∧ At n p.2 r)
def pathsL {α : Type} (f : α → List Stp → List (List Stp)) (p : List Stp) : Nat → List α → List (List Stp)
  | _, [] => []
  | i, x :: l => f x (p ++ [(false, [], (i : Int))]) ++ pathsL f p (i + 1) l
def pathsM {α : Type} (f : α → List Stp → List (List Stp)) (p : List Stp) : List (W × α) → List (List Stp)
  | [] => []
  | x :: l => f x.2 (p ++ [(true, x.1, 0)]) ++ pathsM f p l
def paths : (n : Nat) → T n → List Stp → List (List Stp)
  | 0, _, p => [p]
  | n + 1, v, p => if v.2.1 = [] ∧ v.2.2 = [] then [p] else pathsL (paths n) p 0 v.2.1 ++ pathsM (paths n) p v.2.2
theorem pathsL_mem {α : Type} {f : α → List Stp → List (List Stp)} {p q : List Stp} : ∀ {l : List α} {i : Nat}, q ∈ pathsL f p i l → ∃ (k : Nat) (x : α), l[k]? = some x ∧ q ∈ f x (p ++ [(false, [], ((i + k : Nat) : Int))])
  | x :: l, i, h => by
    rcases List.mem_append.1 h with h | h
    · exact ⟨0, x, rfl, h⟩
    · obtain ⟨k, y, h1, h2⟩ := pathsL_mem h
      refine ⟨k + 1, y, by simpa using h1, ?_⟩
      have e : i + (k + 1) = i + 1 + k := by omega
      rw [e]; exact h2
theorem pathsM_mem {α : Type} {f : α → List Stp → List (List Stp)} {p q : List Stp} : ∀ {l : List (W × α)}, q ∈ pathsM f p l → ∃ (k : Nat) (x : W × α), l[k]? = some x ∧ q ∈ f x.2 (p ++ [(true, x.1, 0)])
  | x :: l, h => by
    rcases List.mem_append.1 h with h | h
    · exact ⟨0, x, rfl, h⟩
    · obtain ⟨k, y, h1, h2⟩ := pathsM_mem h
      exact ⟨k + 1, y, by simpa using h1, h2⟩
theorem paths_at : ∀ {n : Nat} {v : T n} {p q : List Stp}, q ∈ paths n v p → ∃ r, q = p ++ r ∧ At n v r
  | 0, v, p, q, h => ⟨[], by rw [List.append_nil]; exact List.mem_singleton.1 h, rfl⟩
  | n + 1, v, p, q, h => by
    have h : q ∈ if v.2.1 = [] ∧ v.2.2 = [] then [p] else pathsL (paths n) p 0 v.2.1 ++ pathsM (paths n) p v.2.2 := h
    by_cases hl : v.2.1 = [] ∧ v.2.2 = []
    · rw [if_pos hl] at h
      exact ⟨[], by rw [List.append_nil]; exact List.mem_singleton.1 h, hl⟩
    · rw [if_neg hl] at h
      rcases List.mem_append.1 h with h | h
      · obtain ⟨k, x, h1, h2⟩ := pathsL_mem h
        obtain ⟨r, h3, h4⟩ := paths_at h2
        rw [Nat.zero_add] at h3
        exact ⟨(false, [], (k : Int)) :: r, by rw [h3, List.append_assoc]; rfl, .inl ⟨k, x, rfl, h1, h4⟩⟩
      · obtain ⟨k, x, h1, h2⟩ := pathsM_mem h
        obtain ⟨r, h3, h4⟩ := paths_at h2
        exact ⟨(true, x.1, 0) :: r, by rw [h3, List.append_assoc]; rfl, .inr ⟨k, x, rfl, h1, h4⟩⟩
theorem paths_ne : ∀ (n : Nat) (v : T n) (p : List Stp), paths n v p ≠ []
  | 0, _, _ => by simp [paths]
  | n + 1, v, p => by
    show (if v.2.1 = [] ∧ v.2.2 = [] then [p] else pathsL (paths n) p 0 v.2.1 ++ pathsM (paths n) p v.2.2) ≠ []
    by_cases hl : v.2.1 = [] ∧ v.2.2 = []
    · rw [if_pos hl]; simp
    · rw [if_neg hl]
      intro h
      obtain ⟨e1, e2⟩ := List.append_eq_nil_iff.1 h
      match h1 : v.2.1, h2 : v.2.2 with
      | x :: l, _ =>
        rw [h1] at e1
        exact paths_ne n x _ (List.append_eq_nil_iff.1 e1).1
      | [], y :: l =>
        rw [h2] at e2
        exact paths_ne n y.2 _ (List.append_eq_nil_iff.1 e2).1
      | [], [] => exact hl ⟨h1, h2⟩
theorem pathsL_len {α : Type} {f : α → List Stp → List (List Stp)} {g : α → Nat} {p : List Stp} : ∀ {l : List α} {i : Nat}, (∀ x ∈ l, ∀ q, (f x q).length ≤ g x) → (pathsL f p i l).length ≤ sumL g l
  | [], _, _ => Nat.zero_le _
  | x :: l, i, h => by
    have h1 := h x (by simp) (p ++ [(false, [], (i : Int))])
    have h2 := pathsL_len (p := p) (l := l) (i := i + 1) (g := g) fun y hy => h y (by simp [hy])
    rw [pathsL, List.length_append, sumL]; omega
theorem pathsM_len {α : Type} {f : α → List Stp → List (List Stp)} {g : W × α → Nat} {p : List Stp} : ∀ {l : List (W × α)}, (∀ x ∈ l, ∀ q, (f x.2 q).length ≤ g x) → (pathsM f p l).length ≤ sumL g l
  | [], _ => Nat.zero_le _
  | x :: l, h => by
    have h1 := h x (by simp) (p ++ [(true, x.1, 0)])
    have h2 := pathsM_len (p := p) (l := l) (g := g) fun y hy => h y (by simp [hy])
    rw [pathsM, List.length_append, sumL]; omega
theorem paths_len : ∀ (n : Nat) (v : T n) (p : List Stp), (paths n v p).length ≤ sz n v
  | 0, _, _ => Nat.le_refl _
  | n + 1, v, p => by
    show (if v.2.1 = [] ∧ v.2.2 = [] then [p] else pathsL (paths n) p 0 v.2.1 ++ pathsM (paths n) p v.2.2).length ≤ 1 + sumL (sz n) v.2.1 + sumL (fun p : W × T n => sz n p.2) v.2.2
    split
    · show 1 ≤ _; omega
    · rw [List.length_append]
      have h1 := pathsL_len (f := paths n) (g := sz n) (p := p) (l := v.2.1) (i := 0) fun x _ q => paths_len n x q
      have h2 := pathsM_len (f := paths n) (g := fun p : W × T n => sz n p.2) (p := p) (l := v.2.2) fun x _ q => paths_len n x.2 q
      omega
/-- The steps that there are. -/
def stepsU : List Stp := [(true, [], 0), (true, [97], 0), (true, [98], 0), (true, [99, 32, 100], 0), (true, [110], 0), (true, [115], 0), (false, [], 0), (false, [], 1), (false, [], 2)]
theorem at_steps : ∀ {n : Nat} {v : T n} {r : List Stp}, GR n v → At n v r → r.length ≤ n ∧ ∀ s ∈ r, s ∈ stepsU
  | 0, v, r, _, h => by
    have h : r = [] := h
    subst h
    exact ⟨Nat.le_refl _, fun s hs => (by cases hs)⟩
  | n + 1, v, [], _, _ => ⟨Nat.zero_le _, fun s hs => (by cases hs)⟩
  | n + 1, v, s :: r, ⟨_, _, _, h4, h5, h6, h7⟩, h => by
    rcases h with ⟨i, x, rfl, h1, h2⟩ | ⟨i, p, rfl, h1, h2⟩
    · obtain ⟨k1, k2⟩ := at_steps (h4 x (List.mem_of_getElem? h1)) h2
      refine ⟨by rw [List.length_cons]; omega, fun s hs => ?_⟩
      rcases List.mem_cons.1 hs with rfl | hs
      · have hi : i < v.2.1.length := (List.getElem?_eq_some_iff.1 h1).1
        have : i = 0 ∨ i = 1 ∨ i = 2 := by omega
        rcases this with rfl | rfl | rfl <;> decide
      · exact k2 s hs
    · obtain ⟨k1, k2⟩ := at_steps (h5 p (List.mem_of_getElem? h1)) h2
      refine ⟨by rw [List.length_cons]; omega, fun s hs => ?_⟩
      rcases List.mem_cons.1 hs with rfl | hs
      · have hm := h7.subset (List.mem_map.2 ⟨p, List.mem_of_getElem? h1, rfl⟩)
        have key : ∀ w ∈ names6, ((true, w, 0) : Stp) ∈ stepsU := by decide
        exact key _ hm
      · exact k2 s hs
/-- A step's text. -/
def stT (s : Stp) : W := if s.1 then (if s.2.1 = [] ∨ s.2.1 = [99, 32, 100] then 91 :: (qt s.2.1 ++ [93]) else 46 :: s.2.1) else [91, UInt8.ofNat (48 + s.2.2.toNat), 93]
def pathT (p : List Stp) : W := p.flatMap stT
end ValLaw

namespace Go.Ev
open Go.RowKit
/-- What holds at each way to tell the arguments holds. -/
theorem FnOK.refine {p : Nat} {P : Program} {f : FuncId} {args : Array Value} {h : AH} {Q : Value → AH → Prop} (hx : ∀ N args', CRel N args args' → ∃ args2, FnOK p P f args2 h Q ∧ CRel N args2 args') : FnOK p P f args h Q := by
  intro N w args' hargs hr hf
  obtain ⟨a2, h1, h2⟩ := hx N args' hargs
  exact h1 N w args' h2 hr hf
/-- An empty list in an argument: nil, or not. -/
theorem CRel.split {N : Emb} {u : Value} {l : List Value} {k : Nat} {args' : Array Value} (h : CRel N ⟨[u, .agg ⟨l⟩]⟩ args') (hk : l[k]? = some (fz ⟨[]⟩)) : ∃ x, (x = ez ∨ ∃ c, x = .slice none 0 c) ∧ CRel N ⟨[u, .agg ⟨l.set k x⟩]⟩ args' := by
  obtain ⟨u0, v0, rfl, hu, hv⟩ := two_args h
  have hkl : k < l.length := (List.getElem?_eq_some_iff.1 hk).1
  cases hv with
  | agg c c' hs hr =>
    have hsz : c'.size = l.length := hs.symm
    have h4 : c'[k]? = some (c'[k]'(by omega)) := Array.getElem?_eq_getElem (by omega)
    have hv4 := hr k (fz ⟨[]⟩) _ (by simpa using hk) h4
    have go : ∀ a c, c'[k]'(by omega) = .slice a 0 c → ∃ x, (x = ez ∨ ∃ c, x = .slice none 0 c) ∧ CRel N ⟨[u, .agg ⟨l.set k x⟩]⟩ #[u0, .agg c'] := by
      intro a c hac
      have mk : ∀ x, VRel N x (.slice a 0 c) → CRel N ⟨[u, .agg ⟨l.set k x⟩]⟩ #[u0, .agg c'] := fun x hx => by
        refine ⟨rfl, fun i y z p q => ?_⟩
        match i, p, q with
        | 0, p, q => cases p; cases q; exact hu
        | 1, p, q =>
          cases p; cases q
          refine .agg _ _ (by simp [hsz]) fun i y z p q => ?_
          have p : (l.set k x)[i]? = some y := by simpa using p
          by_cases hik : k = i
          · subst hik
            rw [List.getElem?_set_self hkl] at p
            cases p
            rw [h4] at q
            cases q
            rw [hac]; exact hx
          · rw [List.getElem?_set_ne hik] at p
            exact hr i y z (by simpa using p) q
        | i + 2, p, q => cases p
      cases a with
      | none => exact ⟨_, .inr ⟨c, rfl⟩, mk _ (.slice0 0 c)⟩
      | some a => exact ⟨_, .inl rfl, mk _ (.ez a c)⟩
    rcases VRel.inv_fz hv4 with ⟨_, a, c, e⟩ | ⟨s, b, o, c, cs, _, _, _, _, _, e⟩
    · exact go a c e
    · exact go _ c e
end Go.Ev
namespace Go.Proofs.YtmclppkligkooaaGreatDoor
open Go.Ev Go.RowKit
set_option maxRecDepth 20000

def stC (s : ValLaw.Stp) : List Value := [.bool s.1, .string (bl s.2.1), .int .i64 s.2.2]
def stepV (s : ValLaw.Stp) : Value := .agg ⟨stC s⟩
def pathV (p : List ValLaw.Stp) : Value := fz ⟨p.map stepV⟩
def slN : Value → Option (Nat × Nat)
  | .slice (some ⟨_, 0, none⟩) n c => some (n, c)
  | _ => none
theorem slN_eq {v : Value} {n c : Nat} (h : slN v = some (n, c)) : v = .slice (some ⟨blkOf v, 0, none⟩) n c := by
  unfold slN at h
  split at h
  · simp only [Option.some.injEq, Prod.mk.injEq] at h
    obtain ⟨rfl, rfl⟩ := h
    rfl
  · cases h
theorem stC_p1 (p : List ValLaw.Stp) : ∀ v ∈ p.flatMap stC, p1 v = true := fun v hv => by
  obtain ⟨x, _, h⟩ := List.mem_flatMap.1 hv
  have h : v ∈ [.bool x.1, .string (bl x.2.1), .int .i64 x.2.2] := h
  simp only [List.mem_cons, List.not_mem_nil, or_false] at h
  rcases h with rfl | rfl | rfl <;> rfl
theorem freezeP {p : Nat} {P : Program} {h : AH} {b n : Nat} {t : TypeId} {fr : Nat × Nat} (L : List ValLaw.Stp) (hn : L.length = n) (hb : h.get b = some (.cells ⟨L.flatMap stC⟩ t fr)) : Weak p P #[.slice (some ⟨b, 0, none⟩) n n] h #[pathV L] (h.del b) := by
  subst hn
  have hlen : ∀ L : List ValLaw.Stp, (L.flatMap stC).length = L.length * 3 := by
    intro L
    induction L with
    | nil => rfl
    | cons x l ih => rw [List.flatMap_cons, List.length_append, ih, List.length_cons]; show 3 + _ = _; omega
  refine Weak.freeze (n := L.length) (cap := L.length) b 3 ⟨L.map stepV⟩ hb (fun v hv => stC_p1 L v hv) (by simp) (Nat.le_refl _) (by show L.length * 3 ≤ (L.flatMap stC).length; rw [hlen]; exact Nat.le_refl _) ?_ ?_ rfl ?_
  · intro i x hx
    have hx : (L.map stepV)[i]? = some x := by simpa using hx
    rw [List.getElem?_map] at hx
    obtain ⟨q, _, rfl⟩ := Option.map_eq_some_iff.1 hx
    rfl
  · intro i j x v hx hv
    have hx : (L.map stepV)[i]? = some x := by simpa using hx
    rw [List.getElem?_map] at hx
    obtain ⟨q, hq, rfl⟩ := Option.map_eq_some_iff.1 hx
    have hv : (stC q)[j]? = some v := by simpa [stepV, Value.cells] using hv
    have := flat_get (f := stC) (w := 3) (fun _ => rfl) hq hv
    simpa using this
  · intro i
    match i with
    | 0 => exact .inr ⟨rfl, rfl⟩
    | i + 1 => exact .inl (by simp)
/-! slices.Clone of a path -/
noncomputable def SPz : SC := ⟨idn, fun _ _ _ => none, false, false⟩
theorem someCS : Tryz.f31.body.isSome = true := by kernel_rfl
theorem cs_nil (c : Nat) (Q : Value → Prop) : ffn Tryz.prog SP0 [] 600 [] Tryz.f31 [.slice none 0 c] h0 (fun v _ => Q v) = Q nlV := by kernel_rfl
theorem cs_ez (Q : Option (Nat × Nat) → Option Obj → Prop) : tfn Tryz.prog SPz [] (ghost1 1 (unezG 8 0)) 600 [] Tryz.f31 [ez] h0 (fun v h => Q (slN v) (h.get (blkOf v))) = Q (some (0, 0)) (some (.cells ⟨[]⟩ 44 (0, 0))) := by kernel_rfl
theorem cs_1 (b0 : Bool) (s0 : ByteArray) (a0 : Int) (Q : Option (Nat × Nat) → Option Obj → Prop) : ffn Tryz.prog SP0 [] 600 [] Tryz.f31 [fz ⟨[.agg ⟨[.bool b0, .string s0, .int .i64 a0]⟩]⟩] h0 (fun v h => Q (slN v) (h.get (blkOf v))) = Q (some (1, 1)) (some (.cells ⟨[.bool b0, .string s0, .int .i64 a0]⟩ 44 (0, 0))) := by kernel_rfl
theorem cs_2 (b0 : Bool) (s0 : ByteArray) (a0 : Int) (b1 : Bool) (s1 : ByteArray) (a1 : Int) (Q : Option (Nat × Nat) → Option Obj → Prop) : ffn Tryz.prog SP0 [] 600 [] Tryz.f31 [fz ⟨[.agg ⟨[.bool b0, .string s0, .int .i64 a0]⟩, .agg ⟨[.bool b1, .string s1, .int .i64 a1]⟩]⟩] h0 (fun v h => Q (slN v) (h.get (blkOf v))) = Q (some (2, 2)) (some (.cells ⟨[.bool b0, .string s0, .int .i64 a0, .bool b1, .string s1, .int .i64 a1]⟩ 44 (0, 0))) := by kernel_rfl
theorem cs_3 (b0 : Bool) (s0 : ByteArray) (a0 : Int) (b1 : Bool) (s1 : ByteArray) (a1 : Int) (b2 : Bool) (s2 : ByteArray) (a2 : Int) (Q : Option (Nat × Nat) → Option Obj → Prop) : ffn Tryz.prog SP0 [] 600 [] Tryz.f31 [fz ⟨[.agg ⟨[.bool b0, .string s0, .int .i64 a0]⟩, .agg ⟨[.bool b1, .string s1, .int .i64 a1]⟩, .agg ⟨[.bool b2, .string s2, .int .i64 a2]⟩]⟩] h0 (fun v h => Q (slN v) (h.get (blkOf v))) = Q (some (3, 3)) (some (.cells ⟨[.bool b0, .string s0, .int .i64 a0, .bool b1, .string s1, .int .i64 a1, .bool b2, .string s2, .int .i64 a2]⟩ 44 (0, 0))) := by kernel_rfl

def spCy (f : FuncId) (args : Array Value) (h : AH) : Option (Bool × Value × AH) :=
  cond (Nat.beq f 31) (match args with
    | ⟨[.func (.yield 3) ⟨[]⟩ ⟨[]⟩]⟩ => some (true, .slice (some ⟨h.next, 0, none⟩) 0 0, h.push (.cells ⟨[]⟩ 44 (0, 0)))
    | _ => none) none
noncomputable def SCy : SC := ⟨idn, spCy, true, true⟩
/-! behindPath -/
theorem someBP : Tryz.f32.body.isSome = true := by kernel_rfl
theorem bp_n (c : Nat) (b : Bool) (s : ByteArray) (a : Int) (Q : Option (Nat × Nat) → Option Obj → Prop) : ffn Tryz.prog SP0 [] 600 [] Tryz.f32 [.slice none 0 c, .agg ⟨[.bool b, .string s, .int .i64 a]⟩] h0 (fun v h => Q (slN v) (h.get (blkOf v))) = Q (some (1, 1)) (some (.cells ⟨[.bool b, .string s, .int .i64 a]⟩ 44 (0, 0))) := by kernel_rfl
theorem bp_e (b : Bool) (s : ByteArray) (a : Int) (Q : Option (Nat × Nat) → Option Obj → Prop) : ffn Tryz.prog SCy [] 600 [] Tryz.f32 [ez, .agg ⟨[.bool b, .string s, .int .i64 a]⟩] h0 (fun v h => Q (slN v) (h.get (blkOf v))) = Q (some (1, 1)) (some (.cells ⟨[.bool b, .string s, .int .i64 a]⟩ 44 (0, 0))) := by kernel_rfl
theorem bp_1 (b0 : Bool) (s0 : ByteArray) (a0 : Int) (b : Bool) (s : ByteArray) (a : Int) (Q : Option (Nat × Nat) → Option Obj → Prop) : ffn Tryz.prog SP0 [] 600 [] Tryz.f32 [fz ⟨[.agg ⟨[.bool b0, .string s0, .int .i64 a0]⟩]⟩, .agg ⟨[.bool b, .string s, .int .i64 a]⟩] h0 (fun v h => Q (slN v) (h.get (blkOf v))) = Q (some (2, 2)) (some (.cells ⟨[.bool b0, .string s0, .int .i64 a0, .bool b, .string s, .int .i64 a]⟩ 44 (0, 0))) := by kernel_rfl
theorem bp_2 (b0 : Bool) (s0 : ByteArray) (a0 : Int) (b1 : Bool) (s1 : ByteArray) (a1 : Int) (b : Bool) (s : ByteArray) (a : Int) (Q : Option (Nat × Nat) → Option Obj → Prop) : ffn Tryz.prog SP0 [] 600 [] Tryz.f32 [fz ⟨[.agg ⟨[.bool b0, .string s0, .int .i64 a0]⟩, .agg ⟨[.bool b1, .string s1, .int .i64 a1]⟩]⟩, .agg ⟨[.bool b, .string s, .int .i64 a]⟩] h0 (fun v h => Q (slN v) (h.get (blkOf v))) = Q (some (3, 3)) (some (.cells ⟨[.bool b0, .string s0, .int .i64 a0, .bool b1, .string s1, .int .i64 a1, .bool b, .string s, .int .i64 a]⟩ 44 (0, 0))) := by kernel_rfl
end Go.Proofs.YtmclppkligkooaaGreatDoor
