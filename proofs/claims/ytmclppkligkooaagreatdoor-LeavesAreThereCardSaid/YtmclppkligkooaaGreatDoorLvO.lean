/-
  Paths: Clone of a leaf, Get.
-/
import Derived.Test.YtmclppkligkooaaGreatDoorLvN
namespace Go.Ev
open Go.RowKit
/-- An empty list in an argument: nil, or not. -/
theorem CRel.split1 {N : Emb} {l : List Value} {k : Nat} {args' : Array Value} (h : CRel N ⟨[.agg ⟨l⟩]⟩ args') (hk : l[k]? = some (fz ⟨[]⟩)) : ∃ x, (x = ez ∨ ∃ c, x = .slice none 0 c) ∧ CRel N ⟨[.agg ⟨l.set k x⟩]⟩ args' := by
  have hA : args'.size = 1 := by simpa using h.1.symm
  have hkl : k < l.length := (List.getElem?_eq_some_iff.1 hk).1
  obtain ⟨v0, rfl⟩ : ∃ v0, args' = #[v0] := by
    refine ⟨args'[0], ?_⟩
    apply Array.ext
    · simpa using hA
    · intro i h1 h2
      match i, h1, h2 with
      | 0, _, _ => rfl
      | i + 1, h1, _ => omega
  have hv : VRel N (.agg ⟨l⟩) v0 := h.2 0 (.agg ⟨l⟩) v0 (by simp) (by simp)
  cases hv with
  | agg c c' hs hr =>
    have hsz : c'.size = l.length := hs.symm
    have h4 : c'[k]? = some (c'[k]'(by omega)) := Array.getElem?_eq_getElem (by omega)
    have hv4 := hr k (fz ⟨[]⟩) _ (by simpa using hk) h4
    have go : ∀ a c, c'[k]'(by omega) = .slice a 0 c → ∃ x, (x = ez ∨ ∃ c, x = .slice none 0 c) ∧ CRel N ⟨[.agg ⟨l.set k x⟩]⟩ #[.agg c'] := by
      intro a c hac
      have mk : ∀ x, VRel N x (.slice a 0 c) → CRel N ⟨[.agg ⟨l.set k x⟩]⟩ #[.agg c'] := fun x hx => by
        refine ⟨rfl, fun i y z p q => ?_⟩
        match i, p, q with
        | 0, p, q =>
          cases p; cases q
          refine .agg _ _ (by simp [hsz]) fun i y z p q => ?_
          have p : (l.set k x)[i]? = some y := by simpa using p
          by_cases hik : k = i
          · subst hik
            rw [List.getElem?_set_self hkl] at p
            cases p
            rw [h4] at q
            cases q
            rw [hac]; exact hx
          · rw [List.getElem?_set_ne hik] at p
            exact hr i y z (by simpa using p) q
        | i + 1, p, q => cases p
      cases a with
      | none => exact ⟨_, .inr ⟨c, rfl⟩, mk _ (.slice0 0 c)⟩
      | some a => exact ⟨_, .inl rfl, mk _ (.ez a c)⟩
    rcases VRel.inv_fz hv4 with ⟨_, a, c, e⟩ | ⟨s, b, o, c, cs, _, _, _, _, _, e⟩
    · exact go a c e
    · exact go _ c e
theorem Le.nilc (c : Nat) : Le (.slice none 0 c) (fz ⟨[]⟩) := fun _ _ hv => by
  obtain rfl := hv.inv_slice0
  exact .fz0 _ _
/-- A slice of no elements in a cell: told as the empty frozen list. -/
noncomputable def unezC (s j : Nat) : LS := fun t h K =>
  match baseOf (t.get s) with
  | some (g, off) => match h.get g with
    | some (.cells ds dt dfr) => match ds.toList[Nat.add off j]? with
      | some (.func (.yield 3) _ _) => K .normal t (h.set g (.cells ⟨ds.toList.set (Nat.add off j) (fz ⟨[]⟩)⟩ dt dfr))
      | some (.slice none 0 _) => K .normal t h
      | _ => False
    | _ => False
  | _ => False
theorem unezC_ok (p : Nat) (P : Program) (m s j : Nat) : GSpec p P m (unezC s j) := by
  intro t τ h K hr hs
  unfold unezC at hs
  split at hs
  · rename_i g off hsl
    split at hs
    · rename_i ds dt dfr hg
      have hg : h.get g = some (.cells ⟨ds.toList⟩ dt dfr) := hg
      split at hs
      · rename_i xs ys hc
        refine ⟨_, τ, _, ?_, hr, hs⟩
        exact Weak.cell hg hc fun N v' hv => by
          obtain ⟨a, c, rfl⟩ := hv.inv_ez
          exact .fz0 _ _
      · exact ⟨t, τ, h, Weak.refl _ _ _ _, hr, hs⟩
      · exact hs.elim
    · exact hs.elim
  · exact hs.elim
end Go.Ev
namespace Go.Proofs.YtmclppkligkooaaGreatDoor
open Go.Ev Go.RowKit
set_option maxRecDepth 20000

/-! Clone -/
theorem someVC : Tryz.f19.body.isSome = true := by kernel_rfl
theorem vc_nn (k : Int) (f : Bool) (n : Int) (s : ByteArray) (c d : Nat) (Q : Value → Prop) : tfn Tryz.prog SP0 [] (hookOr (ghost1 1 (unezC 1 4)) (hookOr (ghost1 8 (freezeH 1 4 true 6)) (hookOr (ghost1 9 (unezC 1 5)) (ghost1 16 (freezeH 1 5 true 7))))) 1500 [] Tryz.f19 [.agg ⟨[.int .i64 k, .bool f, .int .i64 n, .string s, .slice none 0 c, .slice none 0 d]⟩] h0 (fun v _ => Q v) = Q (.agg ⟨[.int .i64 k, .bool f, .int .i64 n, .string s, .slice none 0 c, .slice none 0 d]⟩) := by kernel_rfl
theorem vc_ne (k : Int) (f : Bool) (n : Int) (s : ByteArray) (c d : Nat) (Q : Value → Prop) : tfn Tryz.prog SP0 [] (hookOr (ghost1 1 (unezC 1 4)) (hookOr (ghost1 8 (freezeH 1 4 true 6)) (hookOr (ghost1 9 (unezC 1 5)) (ghost1 16 (freezeH 1 5 true 7))))) 1500 [] Tryz.f19 [.agg ⟨[.int .i64 k, .bool f, .int .i64 n, .string s, .slice none 0 c, ez]⟩] h0 (fun v _ => Q v) = Q (.agg ⟨[.int .i64 k, .bool f, .int .i64 n, .string s, .slice none 0 c, fz ⟨[]⟩]⟩) := by kernel_rfl
theorem vc_en (k : Int) (f : Bool) (n : Int) (s : ByteArray) (c d : Nat) (Q : Value → Prop) : tfn Tryz.prog SP0 [] (hookOr (ghost1 1 (unezC 1 4)) (hookOr (ghost1 8 (freezeH 1 4 true 6)) (hookOr (ghost1 9 (unezC 1 5)) (ghost1 16 (freezeH 1 5 true 7))))) 1500 [] Tryz.f19 [.agg ⟨[.int .i64 k, .bool f, .int .i64 n, .string s, ez, .slice none 0 d]⟩] h0 (fun v _ => Q v) = Q (.agg ⟨[.int .i64 k, .bool f, .int .i64 n, .string s, fz ⟨[]⟩, .slice none 0 d]⟩) := by kernel_rfl
theorem vc_ee (k : Int) (f : Bool) (n : Int) (s : ByteArray) (c d : Nat) (Q : Value → Prop) : tfn Tryz.prog SP0 [] (hookOr (ghost1 1 (unezC 1 4)) (hookOr (ghost1 8 (freezeH 1 4 true 6)) (hookOr (ghost1 9 (unezC 1 5)) (ghost1 16 (freezeH 1 5 true 7))))) 1500 [] Tryz.f19 [.agg ⟨[.int .i64 k, .bool f, .int .i64 n, .string s, ez, ez]⟩] h0 (fun v _ => Q v) = Q (.agg ⟨[.int .i64 k, .bool f, .int .i64 n, .string s, fz ⟨[]⟩, fz ⟨[]⟩]⟩) := by kernel_rfl
theorem vc_gh : LoopsOK 0 Tryz.prog 58 (hookOr (ghost1 1 (unezC 1 4)) (hookOr (ghost1 8 (freezeH 1 4 true 6)) (hookOr (ghost1 9 (unezC 1 5)) (ghost1 16 (freezeH 1 5 true 7))))) (codeOf Tryz.f19) :=
  loops_or (ghosts_one (by kernel_rfl) (unezC_ok _ _ _ _ _)) (loops_or (ghosts_one (by kernel_rfl) (freezeH_ok _ _ _ _ _ _ _)) (loops_or (ghosts_one (by kernel_rfl) (unezC_ok _ _ _ _ _)) (ghosts_one (by kernel_rfl) (freezeH_ok _ _ _ _ _ _ _))))
theorem le_box {k : Int} {f : Bool} {n : Int} {s : ByteArray} {a b : Value} (ha : Le a (fz ⟨[]⟩)) (hb : Le b (fz ⟨[]⟩)) : Le (.agg ⟨[.int .i64 k, .bool f, .int .i64 n, .string s, a, b]⟩) (vV k f n s [] []) := by
  refine Le.agg rfl fun i x y p q => ?_
  match i, p, q with
  | 0, p, q => cases p; cases q; exact Le.rfl'
  | 1, p, q => cases p; cases q; exact Le.rfl'
  | 2, p, q => cases p; cases q; exact Le.rfl'
  | 3, p, q => cases p; cases q; exact Le.rfl'
  | 4, p, q => cases p; cases q; exact ha
  | 5, p, q => cases p; cases q; exact hb
  | i + 6, p, q => cases p
theorem vc_fn (k : Int) (f : Bool) (n : Int) (s : ByteArray) : FnOK 0 Tryz.prog 19 ⟨[vV k f n s [] []]⟩ h0 (fun u _ => u = vV k f n s [] []) := by
  refine FnOK.refine fun N args' hcr => ?_
  obtain ⟨x, hx, hcr2⟩ := CRel.split1 (k := 4) (l := [.int .i64 k, .bool f, .int .i64 n, .string s, fz ⟨[]⟩, fz ⟨[]⟩]) hcr rfl
  obtain ⟨y, hy, hcr3⟩ := CRel.split1 (k := 5) (l := [.int .i64 k, .bool f, .int .i64 n, .string s, x, fz ⟨[]⟩]) hcr2 rfl
  refine ⟨_, ?_, hcr3⟩
  have fin : ∀ (a b : Value), Le a (fz ⟨[]⟩) → Le b (fz ⟨[]⟩) → FnOK 0 Tryz.prog 19 ⟨[.agg ⟨[.int .i64 k, .bool f, .int .i64 n, .string s, x, y]⟩]⟩ h0 (fun u _ => u = .agg ⟨[.int .i64 k, .bool f, .int .i64 n, .string s, a, b]⟩) → FnOK 0 Tryz.prog 19 ⟨[.agg ⟨[.int .i64 k, .bool f, .int .i64 n, .string s, x, y]⟩]⟩ h0 (fun u _ => u = vV k f n s [] []) := fun a b ha hb hF =>
    FnOK.weak1 (hF.mono fun v g h => ⟨_, g, by rw [h]; exact Weak.val (le_box ha hb), rfl⟩)
  rcases hx with rfl | ⟨c, rfl⟩
  · rcases hy with rfl | ⟨d, rfl⟩
    · exact fin _ _ Le.rfl' Le.rfl' (FnOK.ttree SP0_ok mixed Tryz.func19 someVC vc_gh (vc_ee k f n s 0 0 (fun u => u = .agg ⟨[.int .i64 k, .bool f, .int .i64 n, .string s, fz ⟨[]⟩, fz ⟨[]⟩]⟩)) rfl)
    · exact fin _ _ Le.rfl' (Le.nilc d) (FnOK.ttree SP0_ok mixed Tryz.func19 someVC vc_gh (vc_en k f n s 0 d (fun u => u = .agg ⟨[.int .i64 k, .bool f, .int .i64 n, .string s, fz ⟨[]⟩, .slice none 0 d]⟩)) rfl)
  · rcases hy with rfl | ⟨d, rfl⟩
    · exact fin _ _ (Le.nilc c) Le.rfl' (FnOK.ttree SP0_ok mixed Tryz.func19 someVC vc_gh (vc_ne k f n s c 0 (fun u => u = .agg ⟨[.int .i64 k, .bool f, .int .i64 n, .string s, .slice none 0 c, fz ⟨[]⟩]⟩)) rfl)
    · exact fin _ _ (Le.nilc c) (Le.nilc d) (FnOK.ttree SP0_ok mixed Tryz.func19 someVC vc_gh (vc_nn k f n s c d (fun u => u = .agg ⟨[.int .i64 k, .bool f, .int .i64 n, .string s, .slice none 0 c, .slice none 0 d]⟩)) rfl)
/-! Get -/
def e3 (x : Value) : Value := .agg ⟨[.bool (toBool (x.cells.toList.getD 0 undef)), .string (toStr (x.cells.toList.getD 1 undef)), .int .i64 (toInt (x.cells.toList.getD 2 undef))]⟩
noncomputable def spAt (ok : Bool) (x s y : Value) (f : FuncId) (args : Array Value) (h : AH) : Option (Bool × Value × AH) :=
  cond (Nat.beq f 18) (match args with
    | ⟨[u, t]⟩ => some (ok && eqV u x && eqV t s, .tuple ⟨[y, .bool true]⟩, h)
    | _ => none) none
noncomputable def SAt (ok : Bool) (x s y : Value) : SC := ⟨idn, spAt ok x s y, true, true⟩
def zO2 : Obj := .cells ⟨[.int .i64 0, .bool false, .int .i64 0, .string ⟨#[]⟩, nlV, nlV]⟩ 29 (0, 0)
def gH (k : Int) (f : Bool) (n : Int) (s : ByteArray) (xs ys : List Value) : AH := ⟨2, 2, [(0, bO k f n s xs ys), (1, zO2)]⟩
theorem someGT : Tryz.f6.body.isSome = true := by kernel_rfl
theorem oneGT8 : (loopAt (codeOf Tryz.f6) 8).length = 1 := by kernel_rfl
theorem gt_rd (ok : Bool) (x t : Value) (k2 : Int) (f2 : Bool) (n2 : Int) (s2 : ByteArray) (xs2 ys2 : List Value) (k : Int) (f : Bool) (n : Int) (s : ByteArray) (xs ys zs : List Value) (m i : Int) (B : List Value → AH → Prop) (Q : AExit → List Value → AH → Prop) :
    once 0 Tryz.prog (SAt ok x t (vV k2 f2 n2 s2 xs2 ys2)) [] noHooks 900 44 [2, 4, 25, 26, 27] [0, 1] [2, 4] [0, 1] (oneLoop (codeOf Tryz.f6) 8) [p0V, p1V, fz ⟨zs⟩, .int .i64 m, .int .i64 i] (gH k f n s xs ys) B Q =
    bif decide (i < m) then nd (decide (0 ≤ i) && decide (i < ((Array.mk zs).size : Int)) && Nat.beq (e3 (elV zs i)).cells.size 3) (elV zs i = e3 (elV zs i) ∧ nd (ok && eqV (vV k f n s xs ys) x && eqV (e3 (elV zs i)) t)
      (NoNames (bO k2 f2 n2 s2 xs2 ys2) ∧ NoNames zO2 ∧ B [p0V, p1V, fz ⟨zs⟩, .int .i64 m, .int .i64 (wp i)] (gH k2 f2 n2 s2 xs2 ys2)))
    else NoNames (bO k f n s xs ys) ∧ NoNames zO2 ∧ Q (.exit 0) [p0V, p1V] (gH k f n s xs ys) := by kernel_rfl
noncomputable def spCl (x : Value) (f : FuncId) (args : Array Value) (h : AH) : Option (Bool × Value × AH) :=
  cond (Nat.beq f 19) (match args with
    | ⟨[u]⟩ => some (eqV u x, x, h)
    | _ => none) none
noncomputable def SGt (x p y : Value) : SC := ⟨idn, spOr (spC1 x) (spOr (spCp p) (spCl y)), true, true⟩
theorem gt_hd (X : List Value) (k2 : Int) (f2 : Bool) (n2 : Int) (s2 : ByteArray) (k : Int) (f : Bool) (n : Int) (s : ByteArray) (xs ys : List Value) (C : List Value → AH → Prop) (Q : Value → Prop) :
    tfn Tryz.prog (SGt (vV k f n s xs ys) (fz ⟨X⟩) (vV k2 f2 n2 s2 [] [])) [] (hook1 8 (hookLS 0 44 [2, 4, 25, 26, 27] [0, 1] [2, 4] (fun vals h K => C vals h ∧ K (.exit 0) [p0V, p1V] (gH k2 f2 n2 s2 [] [])))) 900 [] Tryz.f6 [vV k f n s xs ys, fz ⟨X⟩] h0 (fun v _ => Q v) =
    nd (eqV (vV k f n s xs ys) (vV k f n s xs ys)) (nd (eqV (fz ⟨X⟩) (fz ⟨X⟩)) (NoNames (bO k f n s xs ys) ∧ NoNames zO2 ∧ C [p0V, p1V, fz ⟨X⟩, .int .i64 ((Array.mk X).size : Int), .int .i64 0] (gH k f n s xs ys) ∧
      nd (eqV (vV k2 f2 n2 s2 [] []) (vV k2 f2 n2 s2 [] [])) (Q (.tuple ⟨[vV k2 f2 n2 s2 [] [], .bool true, .int .i64 0]⟩)))) := by kernel_rfl
end Go.Proofs.YtmclppkligkooaaGreatDoor
