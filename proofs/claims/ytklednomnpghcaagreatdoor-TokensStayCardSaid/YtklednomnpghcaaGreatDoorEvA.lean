/-
  The abstract evaluator, part EvA: it runs code on a private heap; what it says holds of every world.
-/
import Derived.Orders
import Derived.Lib.DecodeN
import Derived.Laws.Entries
import Derived.Lib.UnsafeStr
import Derived.Laws.Cells
import Derived.Laws.Rows
import Derived.IntWalk
import Derived.Laws.BytesString
import Derived.Laws.IdiomStrings
import Derived.Laws.RangeString
import Derived.Lib.Overlaps
import Derived.Laws.Externs
import Derived.Laws.Append
/-
  The abstract evaluator: a Lean function that runs a program's code on a private heap (EvA: definitions).
-/
namespace Go.Ev

structure AH where
  next : Nat
  low : Nat
  blocks : List (Nat × Obj)

def look (id : Nat) : List (Nat × Obj) → Option Obj
  | [] => none
  | (i, o) :: r => cond (Nat.beq i id) (some o) (look id r)

def setB (id : Nat) (o : Obj) : List (Nat × Obj) → List (Nat × Obj)
  | [] => []
  | (i, o') :: r => cond (Nat.beq i id) ((i, o) :: r) ((i, o') :: setB id o r)

def delB (id : Nat) : List (Nat × Obj) → List (Nat × Obj)
  | [] => []
  | (i, o') :: r => cond (Nat.beq i id) (delB id r) ((i, o') :: delB id r)

def AH.get (h : AH) (id : Nat) : Option Obj := look id h.blocks
/-- A block is written. -/
def AH.set (h : AH) (id : Nat) (o : Obj) : AH := { h with low := min h.low id, blocks := setB id o h.blocks }
/-- A block is given up. -/
def AH.del (h : AH) (id : Nat) : AH := { h with low := min h.low id, blocks := delB id h.blocks }
/-- A new block. -/
def AH.push (h : AH) (o : Obj) : AH := { h with next := h.next + 1, blocks := (h.next, o) :: h.blocks }

/-- Values without an address in them. -/
def flat1 : Value → Bool
  | .bool _ | .int .. | .float .. | .complex .. | .string _ => true
  | .pointer none | .slice none _ _ | .map none | .nilFunc | .nilIface => true
  | .func (.func _) first captured => first.isEmpty && captured.isEmpty
  | _ => false
def flat2 : Value → Bool
  | .agg cs => cs.toList.all flat1
  | .iface _ v => flat1 v
  | v => flat1 v
def flat : Value → Bool
  | .tuple vs => vs.toList.all flat2
  | v => flat2 v

/-- A slice of memory that nobody writes any more, by its elements. -/
def fz (xs : Array Value) : Value := .func (.yield 0) xs #[]
/-- A pointer into such memory, by what lies there. -/
def fp (x : Value) : Value := .func (.yield 1) #[x] #[]

/-- Runs what needs no memory. -/
def prun {α : Type} (P : Program) : Sem α → Option α
  | .pure a => some a
  | .program k => prun P (k P)
  | .mark _ k => prun P k
  | _ => none

def cellsOf (P : Program) (t : TypeId) : Option Nat := (P.info? t).map (·.size)
def isAggD : TypeDesc → Bool
  | .struct _ | .array _ _ => true
  | _ => false

/-- 'n' cells from an address on. -/
def AH.cells? (h : AH) (a : Addr) (n : Nat) : Option (Array Value) :=
  match h.get a.block with
  | some (.cells c _ _) => if a.spot.isSome then none else if a.off + n ≤ c.size then some (c.extract a.off (a.off + n)) else none
  | _ => none
def AH.cell? (h : AH) (a : Addr) : Option Value :=
  match h.get a.block with
  | some (.cells c _ _) => if a.spot.isSome then none else c[a.off]?
  | _ => none

/-- A slice of no elements that is not nil. -/
def ez : Value := .func (.yield 3) #[] #[]
/-- A slice that begins where its block does, with as much room as is said, and no more. -/
def xsV (b n c : Nat) : Value := .func (.yield 4) #[.slice (some ⟨b, 0, none⟩) n c] #[]
/-- A value of which nothing is known. -/
def anyV : Value := .func (.yield 2) #[] #[]
def notAny : Value → Bool
  | .func (.yield 2) _ _ => false
  | _ => true

def oneCell : Value → Bool
  | .agg _ | .tuple _ => false
  | .func (.yield 2) _ _ => false
  | _ => true

/-- Cells are written from an offset on. -/
def putCells (c : Array Value) (off : Nat) : List Value → Array Value
  | [] => c
  | v :: vs => putCells (c.setIfInBounds off v) (off + 1) vs

def AH.store? (h : AH) (a : Addr) (vs : List Value) : Option AH :=
  match vs with
  | [] => some h
  | _ =>
    match h.get a.block with
    | some (.cells c t fr) =>
      if a.spot.isNone && decide (a.off + vs.length ≤ c.size) && (decide (fr.1 = fr.2) || decide (a.off + vs.length ≤ fr.1) || decide (fr.2 ≤ a.off)) && vs.all oneCell
      then some (h.set a.block (.cells (putCells c a.off vs) t fr)) else none
    | _ => none

end Go.Ev

/-
  The abstract evaluator: how abstract values and heaps stand for real ones (EvB: relations).
-/
namespace Go.Ev

/-- Where an abstract block lies: the real block, the offset of its first cell, the cells of one element, the cells of the real block. -/
structure Ent where
  r : Nat
  d : Nat
  s : Nat
  z : Nat

/-- Where names lie, and what is known of real blocks that nobody writes any more. -/
structure Emb where
  m : Nat → Option Ent
  F : Nat → Option (Array Value)

instance : CoeFun Emb (fun _ => Nat → Option Ent) := ⟨Emb.m⟩

structure Emb.le (N N' : Emb) : Prop where
  m : ∀ i e, N i = some e → N' i = some e
  F : ∀ b c, N.F b = some c → N'.F b = some c

instance {N N' : Emb} : CoeFun (Emb.le N N') (fun _ => ∀ i e, N i = some e → N' i = some e) := ⟨Emb.le.m⟩

theorem Emb.le_refl (N : Emb) : Emb.le N N := ⟨fun _ _ h => h, fun _ _ h => h⟩
theorem Emb.le_trans {A B C : Emb} (h : Emb.le A B) (h' : Emb.le B C) : Emb.le A C := ⟨fun i e x => h'.m i e (h.m i e x), fun i e x => h'.F i e (h.F i e x)⟩

/-- Without names. -/
def Emb.drop (N : Emb) : Emb := ⟨fun _ => none, N.F⟩

inductive VRel : Emb → Value → Value → Prop
  | bool {N : Emb} (b : Bool) : VRel N (.bool b) (.bool b)
  | int {N : Emb} (k : IntKind) (n : Int) : VRel N (.int k n) (.int k n)
  | float {N : Emb} (k : FloatKind) (b : Nat) : VRel N (.float k b) (.float k b)
  | complex {N : Emb} (k : FloatKind) (a b : Nat) : VRel N (.complex k a b) (.complex k a b)
  | string {N : Emb} (s : ByteArray) : VRel N (.string s) (.string s)
  | ptr0 {N : Emb} : VRel N (.pointer none) (.pointer none)
  | ptr {N : Emb} (b o : Nat) (sp : Option Nat) (e : Ent) (h : N b = some e) : VRel N (.pointer (some ⟨b, o, sp⟩)) (.pointer (some ⟨e.r, e.d + o, sp⟩))
  | slice0 {N : Emb} (n c : Nat) : VRel N (.slice none n c) (.slice none n c)
  | slice {N : Emb} (b o n c : Nat) (e : Ent) (o' c' : Nat) (h : N b = some e) (hc : c ≤ c') (hz : c' = c ∨ (o' + c' * e.s ≤ e.z ∧ o' % e.s = 0)) (ho : (n = 0 ∧ c = 0 ∧ e.d + o ≤ o') ∨ o' = e.d + o) :
      VRel N (.slice (some ⟨b, o, none⟩) n c) (.slice (some ⟨e.r, o', none⟩) n c')
  | map0 {N : Emb} : VRel N (.map none) (.map none)
  | map {N : Emb} (r : Nat) (e : Ent) (h : N r = some e) : VRel N (.map (some r)) (.map (some e.r))
  | func {N : Emb} (f : FuncId) (x x' y y' : Array Value) (hx : x.size = x'.size) (hy : y.size = y'.size)
      (rx : ∀ (i : Nat) v v', x[i]? = some v → x'[i]? = some v' → VRel N v v') (ry : ∀ (i : Nat) v v', y[i]? = some v → y'[i]? = some v' → VRel N v v') :
      VRel N (.func (.func f) x y) (.func (.func f) x' y')
  | nilFunc {N : Emb} : VRel N .nilFunc .nilFunc
  | iface {N : Emb} (t : TypeId) (v v' : Value) (h : VRel N v v') : VRel N (.iface t v) (.iface t v')
  | nilIface {N : Emb} : VRel N .nilIface .nilIface
  | agg {N : Emb} (c c' : Array Value) (hs : c.size = c'.size) (h : ∀ (i : Nat) v v', c[i]? = some v → c'[i]? = some v' → VRel N v v') : VRel N (.agg c) (.agg c')
  | tuple {N : Emb} (c c' : Array Value) (hs : c.size = c'.size) (h : ∀ (i : Nat) v v', c[i]? = some v → c'[i]? = some v' → VRel N v v') : VRel N (.tuple c) (.tuple c')
  | any {N : Emb} (v' : Value) : VRel N anyV v'
  | ez {N : Emb} (a : Addr) (c : Nat) : VRel N ez (.slice (some a) 0 c)
  | xs {N : Emb} (b n c : Nat) (e : Ent) (h : N b = some e) : VRel N (xsV b n c) (.slice (some ⟨e.r, e.d, none⟩) n c)
  | fz0 {N : Emb} (a : Option Addr) (c : Nat) : VRel N (fz #[]) (.slice a 0 c)
  | fz {N : Emb} (xs : Array Value) (s b o c : Nat) (cs : Array Value) (hF : N.F b = some cs) (hb : o + xs.size * s ≤ cs.size) (hc : xs.size ≤ c)
      (hs : ∀ (i : Nat) x, xs[i]? = some x → x.cells.size = s)
      (hx : ∀ (i j : Nat) x v v', xs[i]? = some x → x.cells[j]? = some v → cs[o + i * s + j]? = some v' → VRel N.drop v v') : VRel N (fz xs) (.slice (some ⟨b, o, none⟩) xs.size c)
  | fp {N : Emb} (x : Value) (b o : Nat) (cs : Array Value) (hF : N.F b = some cs) (hb : o + x.cells.size ≤ cs.size)
      (hx : ∀ (j : Nat) v v', x.cells[j]? = some v → cs[o + j]? = some v' → VRel N.drop v v') : VRel N (fp x) (.pointer (some ⟨b, o, none⟩))

/-- Rows of values, one by one. -/
def CRel (N : Emb) (c c' : Array Value) : Prop := c.size = c'.size ∧ ∀ (i : Nat) v v', c[i]? = some v → c'[i]? = some v' → VRel N v v'

theorem Emb.drop_le {N N' : Emb} (h : Emb.le N N') : Emb.le N.drop N'.drop := ⟨fun _ _ x => (by cases x), h.F⟩
theorem Emb.drop_drop (N : Emb) : N.drop.drop = N.drop := rfl

theorem VRel.mono {N N' : Emb} (hN : Emb.le N N') {v v' : Value} (h : VRel N v v') : VRel N' v v' := by
  induction h generalizing N' with
  | bool b => exact .bool b
  | int k n => exact .int k n
  | float k b => exact .float k b
  | complex k a b => exact .complex k a b
  | string s => exact .string s
  | ptr0 => exact .ptr0
  | ptr b o sp e h => exact .ptr b o sp e (hN _ _ h)
  | slice0 n c => exact .slice0 n c
  | slice b o n c e o' c' h hc hz ho => exact .slice b o n c e o' c' (hN _ _ h) hc hz ho
  | map0 => exact .map0
  | map r e h => exact .map r e (hN _ _ h)
  | func f x x' y y' hx hy _ _ ihx ihy => exact .func f x x' y y' hx hy (fun i v v' a b => ihx i v v' a b hN) (fun i v v' a b => ihy i v v' a b hN)
  | nilFunc => exact .nilFunc
  | iface t v v' _ ih => exact .iface t v v' (ih hN)
  | nilIface => exact .nilIface
  | agg c c' hs _ ih => exact .agg c c' hs (fun i v v' a b => ih i v v' a b hN)
  | tuple c c' hs _ ih => exact .tuple c c' hs (fun i v v' a b => ih i v v' a b hN)
  | any v' => exact .any v'
  | ez a c => exact .ez a c
  | xs b n c e h => exact .xs b n c e (hN _ _ h)
  | fz0 a c => exact .fz0 a c
  | fz xs s b o c cs hF hb hc hs _ ih => exact .fz xs s b o c cs (hN.F _ _ hF) hb hc hs (fun i j x v v' p q r => ih i j x v v' p q r (Emb.drop_le hN))
  | fp x b o cs hF hb _ ih => exact .fp x b o cs (hN.F _ _ hF) hb (fun j v v' p q => ih j v v' p q (Emb.drop_le hN))

theorem VRel.undrop {N : Emb} {v v' : Value} (h : VRel N.drop v v') : VRel N v v' := VRel.mono (N := N.drop) (N' := N) ⟨fun _ _ x => (by cases x), fun _ _ x => x⟩ h

theorem CRel.mono {N N' : Emb} (hN : Emb.le N N') {c c' : Array Value} (h : CRel N c c') : CRel N' c c' :=
  ⟨h.1, fun i v v' a b => (h.2 i v v' a b).mono hN⟩

theorem eq_of_getElem? {c c' : Array Value} (hs : c.size = c'.size) (h : ∀ (i : Nat) v v', c[i]? = some v → c'[i]? = some v' → v' = v) : c' = c := by
  apply Array.ext hs.symm
  intro i h1 h2
  exact h i _ _ (Array.getElem?_eq_getElem h2) (Array.getElem?_eq_getElem h1)

theorem flat1_eq {N : Emb} {v v' : Value} (h : VRel N v v') (hf : flat1 v = true) : v' = v := by
  cases h with
  | ptr => simp [flat1] at hf
  | slice => simp [flat1] at hf
  | map => simp [flat1] at hf
  | iface => simp [flat1] at hf
  | agg => simp [flat1] at hf
  | tuple => simp [flat1] at hf
  | any => simp [flat1, anyV] at hf
  | ez => simp [flat1, Go.Ev.ez] at hf
  | xs => simp [flat1, Go.Ev.xsV] at hf
  | fz0 => simp [flat1, Go.Ev.fz] at hf
  | fz => simp [flat1, Go.Ev.fz] at hf
  | fp => simp [flat1, Go.Ev.fp] at hf
  | func f x x' y y' hx hy _ _ =>
    simp [flat1] at hf
    obtain ⟨rfl, rfl⟩ := hf
    have e1 : x' = #[] := by simpa using hx.symm
    have e2 : y' = #[] := by simpa using hy.symm
    rw [e1, e2]
  | _ => rfl

theorem mem_of_getElem? {c : Array Value} {i : Nat} {v : Value} (h : c[i]? = some v) : v ∈ c.toList := Array.mem_toList_iff.2 (Array.mem_of_getElem? h)

theorem flat2_eq {N : Emb} {v v' : Value} (h : VRel N v v') (hf : flat2 v = true) : v' = v := by
  cases h with
  | agg c c' hs hr =>
    simp only [flat2, List.all_eq_true] at hf
    rw [eq_of_getElem? hs fun i v v' a b => flat1_eq (hr i v v' a b) (hf v (mem_of_getElem? a))]
  | iface t v v' hr => simp only [flat2] at hf; rw [flat1_eq hr hf]
  | tuple => simp [flat2, flat1] at hf
  | ptr => simp [flat2, flat1] at hf
  | slice => simp [flat2, flat1] at hf
  | map => simp [flat2, flat1] at hf
  | any => simp [flat2, flat1, anyV] at hf
  | ez => simp [flat2, flat1, Go.Ev.ez] at hf
  | xs => simp [flat2, flat1, Go.Ev.xsV] at hf
  | fz0 => simp [flat2, flat1, Go.Ev.fz] at hf
  | fz => simp [flat2, flat1, Go.Ev.fz] at hf
  | fp => simp [flat2, flat1, Go.Ev.fp] at hf
  | func f x x' y y' hx hy a b => exact flat1_eq (.func f x x' y y' hx hy a b) hf
  | _ => rfl

theorem flat_eq {N : Emb} {v v' : Value} (h : VRel N v v') (hf : flat v = true) : v' = v := by
  cases h with
  | tuple c c' hs hr =>
    simp only [flat, List.all_eq_true] at hf
    rw [eq_of_getElem? hs fun i v v' a b => flat2_eq (hr i v v' a b) (hf v (mem_of_getElem? a))]
  | agg c c' hs hr => exact flat2_eq (.agg c c' hs hr) hf
  | iface t v v' hr => exact flat2_eq (.iface t v v' hr) hf
  | ptr => simp [flat, flat2, flat1] at hf
  | slice => simp [flat, flat2, flat1] at hf
  | map => simp [flat, flat2, flat1] at hf
  | any => simp [flat, flat2, flat1, anyV] at hf
  | ez => simp [flat, flat2, flat1, Go.Ev.ez] at hf
  | xs => simp [flat, flat2, flat1, Go.Ev.xsV] at hf
  | fz0 => simp [flat, flat2, flat1, Go.Ev.fz] at hf
  | fz => simp [flat, flat2, flat1, Go.Ev.fz] at hf
  | fp => simp [flat, flat2, flat1, Go.Ev.fp] at hf
  | func f x x' y y' hx hy a b => exact flat1_eq (.func f x x' y y' hx hy a b) hf
  | _ => rfl

theorem flat1_refl (N : Emb) {v : Value} (hf : flat1 v = true) : VRel N v v := by
  match v, hf with
  | .bool b, _ => exact .bool b
  | .int k n, _ => exact .int k n
  | .float k n, _ => exact .float k n
  | .complex k a b, _ => exact .complex k a b
  | .string s, _ => exact .string s
  | .pointer none, _ => exact .ptr0
  | .slice none n c, _ => exact .slice0 n c
  | .map none, _ => exact .map0
  | .nilFunc, _ => exact .nilFunc
  | .nilIface, _ => exact .nilIface
  | .func (.func f) x y, h =>
    simp [flat1] at h
    obtain ⟨rfl, rfl⟩ := h
    exact .func f _ _ _ _ rfl rfl (by simp) (by simp)

theorem flat2_refl (N : Emb) {v : Value} (hf : flat2 v = true) : VRel N v v := by
  match v, hf with
  | .agg cs, h =>
    simp only [flat2, List.all_eq_true] at h
    refine .agg cs cs rfl fun i v v' a b => ?_
    rw [a] at b; cases b
    exact flat1_refl N (h v (mem_of_getElem? a))
  | .iface t v, h => simp only [flat2] at h; exact .iface t v v (flat1_refl N h)
  | .bool b, _ => exact .bool b
  | .int k n, _ => exact .int k n
  | .float k n, _ => exact .float k n
  | .complex k a b, _ => exact .complex k a b
  | .string s, _ => exact .string s
  | .pointer none, _ => exact .ptr0
  | .slice none n c, _ => exact .slice0 n c
  | .map none, _ => exact .map0
  | .nilFunc, _ => exact .nilFunc
  | .nilIface, _ => exact .nilIface
  | .func (.func f) x y, h => exact flat1_refl N h

theorem flat_refl (N : Emb) {v : Value} (hf : flat v = true) : VRel N v v := by
  match v, hf with
  | .tuple cs, h =>
    simp only [flat, List.all_eq_true] at h
    refine .tuple cs cs rfl fun i v v' a b => ?_
    rw [a] at b; cases b
    exact flat2_refl N (h v (mem_of_getElem? a))
  | .agg cs, h => exact flat2_refl N h
  | .iface t v, h => exact flat2_refl N h
  | .bool b, _ => exact .bool b
  | .int k n, _ => exact .int k n
  | .float k n, _ => exact .float k n
  | .complex k a b, _ => exact .complex k a b
  | .string s, _ => exact .string s
  | .pointer none, _ => exact .ptr0
  | .slice none n c, _ => exact .slice0 n c
  | .map none, _ => exact .map0
  | .nilFunc, _ => exact .nilFunc
  | .nilIface, _ => exact .nilIface
  | .func (.func f) x y, h => exact flat1_refl N h

theorem CRel.one {N : Emb} {v v' : Value} (h : VRel N v v') : CRel N #[v] #[v'] := by
  refine ⟨rfl, fun i a b ha hb => ?_⟩
  cases i with
  | zero => simp at ha hb; subst ha; subst hb; exact h
  | succ i => simp at ha

theorem VRel.cells {N : Emb} {v v' : Value} (h : VRel N v v') (hn : notAny v = true) : CRel N v.cells v'.cells := by
  cases h with
  | any v' => simp [notAny, anyV] at hn
  | ez a c => exact .one (.ez a c)
  | xs b n c e h => exact .one (.xs b n c e h)
  | agg c c' hs hr => exact ⟨hs, hr⟩
  | bool b => exact .one (.bool b)
  | int k n => exact .one (.int k n)
  | float k b => exact .one (.float k b)
  | complex k a b => exact .one (.complex k a b)
  | string s => exact .one (.string s)
  | ptr0 => exact .one .ptr0
  | ptr b o sp e h => exact .one (.ptr b o sp e h)
  | slice0 n c => exact .one (.slice0 n c)
  | slice b o n c e o' c' h hc hz ho => exact .one (.slice b o n c e o' c' h hc hz ho)
  | map0 => exact .one .map0
  | map r e h => exact .one (.map r e h)
  | func f x x' y y' hx hy a b => exact .one (.func f x x' y y' hx hy a b)
  | nilFunc => exact .one .nilFunc
  | iface t v v' h => exact .one (.iface t v v' h)
  | nilIface => exact .one .nilIface
  | tuple c c' hs h => exact .one (.tuple c c' hs h)
  | fz0 a c => exact .one (.fz0 a c)
  | fz xs s b o c cs hF hb hc hs hx => exact .one (.fz xs s b o c cs hF hb hc hs hx)
  | fp x b o cs hF hb hx => exact .one (.fp x b o cs hF hb hx)

theorem flat_notAny {v : Value} (h : flat v = true) : notAny v = true := by
  cases v <;> first | rfl | (rename_i fn a b; cases fn <;> first | rfl | simp [flat, flat2, flat1] at h)
theorem flat2_notAny {v : Value} (h : flat2 v = true) : notAny v = true := by
  cases v <;> first | rfl | (rename_i fn a b; cases fn <;> first | rfl | simp [flat2, flat1] at h)

/-- What is frozen of a real row, and of the abstract one. -/
def FrRel (fr fr' : Nat × Nat) (d n z : Nat) : Prop :=
  (fr.1 = fr.2 → fr'.1 = fr'.2) ∧
  (∀ i, i < n → fr'.1 ≤ d + i → d + i < fr'.2 → fr.1 ≤ i ∧ i < fr.2) ∧
  (∀ j, d + n ≤ j → j < z → ¬ (fr'.1 ≤ j ∧ j < fr'.2))

def width (P : Program) (t : TypeId) : Nat := (cellsOf P t).getD 0

def ORel (P : Program) (N : Emb) (e : Ent) : Obj → Obj → Prop
  | .cells c t fr, o' => ∃ c' fr', o' = .cells c' t fr' ∧ c'.size = e.z ∧ e.d + c.size ≤ e.z ∧ e.s = width P t ∧ e.d % e.s = 0 ∧
      (∀ (i : Nat) v, c[i]? = some v → ∃ v', c'[e.d + i]? = some v' ∧ VRel N v v') ∧ FrRel fr fr' e.d c.size e.z
  | .map es k, o' => ∃ es', o' = .map es' k ∧ es.size = es'.size ∧
      ∀ (i : Nat) x x', es[i]? = some x → es'[i]? = some x' → VRel N x.key x'.key ∧ VRel N x.val x'.val ∧ x'.born = x.born
  | .stringIter s p, o' => o' = .stringIter s p ∧ e.d = 0
  | _, _ => False

theorem ORel.mono {P : Program} {N N' : Emb} (hN : Emb.le N N') {e : Ent} {o o' : Obj} (h : ORel P N e o o') : ORel P N' e o o' := by
  cases o with
  | cells c t fr =>
    obtain ⟨c', fr', h1, h2, h3, h4, h5, h6, h7⟩ := h
    exact ⟨c', fr', h1, h2, h3, h4, h5, fun i v hv => let ⟨v', a, b⟩ := h6 i v hv; ⟨v', a, b.mono hN⟩, h7⟩
  | map es k =>
    obtain ⟨es', h1, h2, h3⟩ := h
    exact ⟨es', h1, h2, fun i x x' a b => let ⟨p, q, r⟩ := h3 i x x' a b; ⟨p.mono hN, q.mono hN, r⟩⟩
  | stringIter s p => exact h
  | _ => exact h.elim

/-- Tables of the library that are taken for granted, where a program has them. -/
def bruijn : List Int := [0, 1, 56, 2, 57, 49, 28, 3, 61, 58, 42, 50, 38, 29, 17, 4, 62, 47, 59, 36, 45, 43, 51, 22, 53, 39, 33, 30, 24, 18, 12, 5, 63, 55, 48, 27, 60, 41, 37, 16, 46, 35, 44, 21, 52, 32, 23, 11, 54, 26, 40, 15, 34, 20, 31, 10, 25, 14, 19, 9, 13, 8, 7, 6]
def tabs : List (String × Array Value) := [("internal/strconv.uint64pow10", ⟨((List.range 20).map fun i => ((10 ^ i : Nat) : Int)).map fun z => Value.int .u64 z⟩),
  ("unicode/utf8.first", ⟨((List.range 256).map fun c => (Go.Lib.firstT c : Int)).map fun z => Value.int .u8 z⟩), ("unicode/utf8.acceptRanges", ⟨(List.range 16).flatMap fun i => [Value.int .u8 (Go.Lib.accLo i), .int .u8 (Go.Lib.accHi i)]⟩), ("math/bits.deBruijn64tab", ⟨bruijn.map fun z => Value.int .u8 z⟩)]
def Req (P : Program) (b : Nat) (c : Array Value) : Prop := ∃ n, (n, c) ∈ tabs ∧ P.globalNamed n = some b
/-- Variables of the library that hold some number. -/
def itabs : List String := ["internal/bytealg.MaxLen"]
def ReqI (P : Program) (b : Nat) : Prop := ∃ n ∈ itabs, P.globalNamed n = some b
def ReqAll (P : Program) (F : Nat → Option (Array Value)) : Prop := (∀ b c, Req P b c → F b = some c) ∧ ∀ b, ReqI P b → ∃ m : Int, F b = some #[.int .i64 m]
theorem ReqAll.le {P : Program} {F G : Nat → Option (Array Value)} (h : ReqAll P F) (hle : ∀ b c, F b = some c → G b = some c) : ReqAll P G := ⟨fun b c q => hle b c (h.1 b c q), fun b q => (h.2 b q).imp fun _ x => hle b _ x⟩
/-- The library's tables and numbers lie in the memory. -/
def TabsIn (P : Program) (w : World) : Prop := (∀ b c, Req P b c → ∃ t fr, w.heap[b]? = some (.cells c t fr)) ∧ ∀ b, ReqI P b → ∃ (m : Int) (t : TypeId) (fr : Nat × Nat), w.heap[b]? = some (.cells #[.int .i64 m] t fr)
structure HRel (P : Program) (N : Emb) (h : AH) (w : World) : Prop where
  here : ∀ i o, h.get i = some o → ∃ e o', N i = some e ∧ w.heap[e.r]? = some o' ∧ ORel P N e o o'
  inj : ∀ i j o p e f, h.get i = some o → h.get j = some p → N i = some e → N j = some f → e.r = f.r → i = j
  ids : ∀ i o, h.get i = some o → i < h.next
  froz : ∀ b c, N.F b = some c → (∃ t fr, w.heap[b]? = some (.cells c t fr)) ∧ ∀ i o e, h.get i = some o → N i = some e → e.r ≠ b
  req : ReqAll P N.F

def Fresh (N : Emb) (h h' : AH) : Prop := ∀ i, h.next ≤ i → i < h'.next → N i = none

/-- From one state to a later one. -/
structure Ext (P : Program) (N : Emb) (h : AH) (w : World) (N' : Emb) (h' : AH) (w' : World) : Prop where
  le : Emb.le N N'
  new : ∀ i e, N' i = some e → N i = none → h.next ≤ i ∧ i < h'.next ∧ (w.heap.size ≤ e.r ∨ ∃ j o f, h.get j = some o ∧ N j = some f ∧ f.r = e.r)
  newF : ∀ b c, N'.F b = some c → N.F b = none → w.heap.size ≤ b ∨ ∃ j o f, h.get j = some o ∧ N j = some f ∧ f.r = b
  rel : HRel P N' h' w'
  size : w.heap.size ≤ w'.heap.size
  keep : ∀ b, b < w.heap.size → (∀ i o e, h.get i = some o → N i = some e → e.r ≠ b) → w'.heap[b]? = w.heap[b]?
  tape : w'.tape = w.tape
  os : w'.os = w.os
  output : w'.output = w.output
  alive : ∀ i o, h'.get i = some o → (∃ p, h.get i = some p) ∨ (h.next ≤ i ∧ i < h'.next)
  nxt : h.next ≤ h'.next
  low : h'.low ≤ h.low
  old : ∀ i, i < h.next → i < h'.low → h'.get i = h.get i

theorem lt_of_some {w : World} {b : Nat} {o : Obj} (h : w.heap[b]? = some o) : b < w.heap.size := by
  rcases Nat.lt_or_ge b w.heap.size with h' | h'
  · exact h'
  · rw [Array.getElem?_eq_none h'] at h; cases h

theorem Ext.refl {P : Program} {N : Emb} {h : AH} {w : World} (hr : HRel P N h w) : Ext P N h w N h w where
  le := Emb.le_refl N
  new := fun i e a b => by rw [a] at b; cases b
  newF := fun i e a b => by rw [a] at b; cases b
  rel := hr
  size := Nat.le_refl _
  keep := fun _ _ _ => rfl
  tape := rfl
  os := rfl
  output := rfl
  alive := fun i o ho => .inl ⟨o, ho⟩
  nxt := Nat.le_refl _
  low := Nat.le_refl _
  old := fun _ _ _ => rfl

theorem Ext.trans {P : Program} {N N₁ N₂ : Emb} {h h₁ h₂ : AH} {w w₁ w₂ : World} (a : Ext P N h w N₁ h₁ w₁) (b : Ext P N₁ h₁ w₁ N₂ h₂ w₂) (hf : Fresh N h h₁) :
    Ext P N h w N₂ h₂ w₂ where
  le := Emb.le_trans a.le b.le
  new := fun i e hi hn => by
    cases h1 : N₁ i with
    | some f =>
      have := b.le i f h1
      rw [hi] at this
      cases this
      obtain ⟨x, y, z⟩ := a.new i e h1 hn
      exact ⟨x, Nat.lt_of_lt_of_le y b.nxt, z⟩
    | none =>
      obtain ⟨x, y, z⟩ := b.new i e hi h1
      refine ⟨Nat.le_trans a.nxt x, y, ?_⟩
      rcases z with z | ⟨j, o, f, hj, hfj, hr'⟩
      · exact .inl (Nat.le_trans a.size z)
      · cases hNj : N j with
        | some g =>
          have := a.le j g hNj
          rw [hfj] at this
          cases this
          rcases a.alive j o hj with ⟨p, hp⟩ | ⟨u, v⟩
          · exact .inr ⟨j, p, f, hp, hNj, hr'⟩
          · rw [hf j u v] at hNj; cases hNj
        | none =>
          obtain ⟨_, _, z'⟩ := a.new j f hfj hNj
          rcases z' with z' | ⟨j', o', f', x1, x2, x3⟩
          · exact .inl (by rw [← hr']; exact z')
          · exact .inr ⟨j', o', f', x1, x2, by rw [x3, hr']⟩
  newF := fun blk c hi hn => by
    cases h1 : N₁.F blk with
    | some f =>
      exact a.newF blk f h1 hn
    | none =>
      rcases b.newF blk c hi h1 with z | ⟨j, o, f, hj, hfj, hr'⟩
      · exact .inl (Nat.le_trans a.size z)
      · cases hNj : N j with
        | some g =>
          have := a.le j g hNj
          rw [hfj] at this
          cases this
          rcases a.alive j o hj with ⟨p, hp⟩ | ⟨u, v⟩
          · exact .inr ⟨j, p, f, hp, hNj, hr'⟩
          · rw [hf j u v] at hNj; cases hNj
        | none =>
          obtain ⟨_, _, z'⟩ := a.new j f hfj hNj
          rcases z' with z' | ⟨j', o', f', x1, x2, x3⟩
          · exact .inl (by rw [← hr']; exact z')
          · exact .inr ⟨j', o', f', x1, x2, by rw [x3, hr']⟩
  rel := b.rel
  size := Nat.le_trans a.size b.size
  keep := fun blk hb hk => by
    rw [b.keep blk (Nat.lt_of_lt_of_le hb a.size) ?_, a.keep blk hb hk]
    intro i o e hi hN
    cases hNi : N i with
    | some g =>
      have := a.le i g hNi
      rw [hN] at this
      cases this
      rcases a.alive i o hi with ⟨p, hp⟩ | ⟨u, v⟩
      · exact hk i p e hp hNi
      · rw [hf i u v] at hNi; cases hNi
    | none =>
      obtain ⟨_, _, z'⟩ := a.new i e hN hNi
      rcases z' with z' | ⟨j', o', f', x1, x2, x3⟩
      · omega
      · rw [← x3]; exact hk j' o' f' x1 x2
  tape := by rw [b.tape, a.tape]
  os := by rw [b.os, a.os]
  output := by rw [b.output, a.output]
  alive := fun i o ho => by
    rcases b.alive i o ho with ⟨p, hp⟩ | ⟨x, y⟩
    · rcases a.alive i p hp with q | ⟨x, y⟩
      · exact .inl q
      · exact .inr ⟨x, Nat.lt_of_lt_of_le y b.nxt⟩
    · exact .inr ⟨Nat.le_trans a.nxt x, y⟩
  nxt := Nat.le_trans a.nxt b.nxt
  low := Nat.le_trans b.low a.low
  old := fun i hi hl => by
    rw [b.old i (Nat.lt_of_lt_of_le hi a.nxt) hl, a.old i hi (Nat.lt_of_lt_of_le hl b.low)]

end Go.Ev

/-
  The abstract evaluator: operations that need no memory (EvC).
-/
namespace Go.Ev

theorem prun_run {α : Type} {P : Program} : ∀ (s : Sem α) {a : α}, prun P s = some a → ∀ w, s.run P w = .ok a w := by
  intro s
  induction s with
  | pure a => intro b h w; simp [prun] at h; subst h; rfl
  | program k ih => intro b h w; simp only [prun] at h; simp only [Sem.run]; exact ih P h w
  | mark m k ih => intro b h w; simp only [prun] at h; simp only [Sem.run]; exact ih h w
  | _ => intros; rename_i h _; simp [prun] at h

def aflat (P : Program) (ρ : Operand → Value) (o : Oper) : Option Value :=
  match o.op with
  | .select .. => none
  | op => cond (op.operands.toList.all (fun x => flat (ρ x)))
      (match prun P (execOp ρ o) with
      | some (.value v) => cond (flat v) (some v) none
      | _ => none) none

/-- What a pure operation owes. -/
def PureOK (P : Program) (o : Oper) (ρ : Operand → Value) (v : Value) : Prop :=
  ∀ (N : Emb) (w : World) (ρ' : Operand → Value), (∀ x ∈ o.op.operands, VRel N (ρ x) (ρ' x)) →
    ∃ v', (execOp ρ' o).run P w = .ok (.value v') w ∧ VRel N v v'

theorem aflat_ok {P : Program} {ρ : Operand → Value} {o : Oper} {v : Value} (h : aflat P ρ o = some v) : PureOK P o ρ v := by
  intro N w ρ' hρ
  have hs : ∀ cs b, o.op ≠ .select cs b := by
    intro cs b e
    simp [aflat, e] at h
  have h' : (cond (o.op.operands.toList.all (fun x => flat (ρ x)))
      (match prun P (execOp ρ o) with
      | some (.value v) => cond (flat v) (some v) none
      | _ => none) none) = some v := by
    unfold aflat at h
    split at h
    · cases h
    · exact h
  cases hall : o.op.operands.toList.all (fun x => flat (ρ x)) with
  | false => rw [hall] at h'; cases h'
  | true =>
    rw [hall] at h'
    simp only [cond_true] at h'
    have heq : execOp ρ' o = execOp ρ o := by
      apply execOp_congr o hs
      intro x hx
      exact flat_eq (hρ x hx) (List.all_eq_true.1 hall x (Array.mem_toList_iff.2 hx))
    cases hp : prun P (execOp ρ o) with
    | none => rw [hp] at h'; cases h'
    | some n =>
      rw [hp] at h'
      cases n <;> try (cases h'; done)
      rename_i u
      simp only at h'
      cases hf : flat u with
      | false => rw [hf] at h'; cases h'
      | true =>
        rw [hf] at h'
        cases h'
        exact ⟨v, by rw [heq]; exact prun_run _ hp w, flat_refl N hf⟩

theorem CRel.get {N : Emb} {c c' : Array Value} (h : CRel N c c') {i : Nat} {v : Value} (hv : c[i]? = some v) : ∃ v', c'[i]? = some v' ∧ VRel N v v' := by
  have hi : i < c.size := by
    rcases Nat.lt_or_ge i c.size with x | x
    · exact x
    · rw [Array.getElem?_eq_none x] at hv; cases hv
  have hi' : i < c'.size := h.1 ▸ hi
  exact ⟨c'[i], Array.getElem?_eq_getElem hi', h.2 i v _ hv (Array.getElem?_eq_getElem hi')⟩

theorem CRel.map {N : Emb} {ρ ρ' : Operand → Value} {xs : Array Operand} (h : ∀ x ∈ xs, VRel N (ρ x) (ρ' x)) : CRel N (xs.map ρ) (xs.map ρ') := by
  refine ⟨by simp, fun i v v' a b => ?_⟩
  simp only [Array.getElem?_map, Option.map_eq_some_iff] at a b
  obtain ⟨x, hx, rfl⟩ := a
  obtain ⟨y, hy, rfl⟩ := b
  rw [hx] at hy
  cases hy
  exact h x (Array.mem_of_getElem? hx)

theorem cellsOf_some {P : Program} {t : TypeId} {n : Nat} (h : cellsOf P t = some n) : ∃ i, P.info? t = some i ∧ i.size = n := by
  unfold cellsOf at h
  cases hi : P.info? t with
  | none => rw [hi] at h; cases h
  | some i => rw [hi] at h; simp at h; exact ⟨i, rfl, h⟩

theorem run_sizeOf {P : Program} {t : TypeId} {n : Nat} (h : cellsOf P t = some n) (w : World) : (sizeOf t).run P w = .ok n w := by
  obtain ⟨i, hi, rfl⟩ := cellsOf_some h
  simp [sizeOf, typeInfo, hi]

theorem run_isAgg {P : Program} {t : TypeId} {d : TypeDesc} (h : P.underlying t = some d) (w : World) : (isAgg t).run P w = .ok (isAggD d) w := by
  unfold isAgg
  rw [Sem.run_bind, run_underlying h w]
  cases d <;> rfl

/-- A part of a row of cells, as a value. -/
def apart (P : Program) (t : TypeId) (cs : Array Value) (off : Nat) : Option Value :=
  match P.underlying t with
  | none => none
  | some d => cond (isAggD d)
      (match cellsOf P t with
      | some n => some (.agg ⟨(cs.toList.drop off).take n⟩)
      | none => none)
      cs[off]?

theorem extract_eq (cs : Array Value) (off n : Nat) : cs.extract off (off + n) = ⟨(cs.toList.drop off).take n⟩ := by
  apply Array.ext'
  simp [List.extract_eq_take_drop]

theorem CRel.dropTake {N : Emb} {c c' : Array Value} (h : CRel N c c') (off n : Nat) : CRel N ⟨(c.toList.drop off).take n⟩ ⟨(c'.toList.drop off).take n⟩ := by
  refine ⟨by simp [h.1], fun i v v' a b => ?_⟩
  simp only [List.getElem?_toArray, List.getElem?_take, List.getElem?_drop] at a b
  split at a
  · rename_i hi
    rw [if_pos hi] at b
    exact h.2 (off + i) v v' (by simpa using a) (by simpa using b)
  · cases a

theorem apart_ok {P : Program} {N : Emb} {t : TypeId} {cs cs' : Array Value} {off : Nat} {v : Value} (h : apart P t cs off = some v) (hc : CRel N cs cs') (w : World) :
    ∃ v', (part t cs' off).run P w = .ok v' w ∧ VRel N v v' := by
  unfold apart at h
  cases hu : P.underlying t with
  | none => rw [hu] at h; cases h
  | some d =>
    rw [hu] at h
    simp only at h
    cases hd : isAggD d with
    | true =>
      rw [hd] at h
      simp only [cond_true] at h
      cases hn : cellsOf P t with
      | none => rw [hn] at h; cases h
      | some n =>
        rw [hn] at h
        cases h
        refine ⟨.agg (cs'.extract off (off + n)), ?_, ?_⟩
        · simp [part, run_isAgg hu w, hd, run_sizeOf hn]
        · rw [extract_eq]
          exact .agg _ _ (hc.dropTake off n).1 (hc.dropTake off n).2
    | false =>
      rw [hd] at h
      simp only [cond_false] at h
      obtain ⟨v', hv', hr⟩ := hc.get h
      exact ⟨v', by simp [part, run_isAgg hu w, hd, hv'], hr⟩

end Go.Ev

/-
  The abstract evaluator: pure operations on values with addresses (EvD).
-/
namespace Go.Ev

theorem VRel.addr {N : Emb} {a : Addr} {v' : Value} (h : VRel N (.pointer (some a)) v') : ∃ e, N a.block = some e ∧ v' = .pointer (some ⟨e.r, e.d + a.off, a.spot⟩) := by
  cases h with
  | ptr b o sp e h => exact ⟨e, h, rfl⟩

theorem VRel.add {N : Emb} {a : Addr} {e : Ent} (h : N a.block = some e) (n : Nat) : VRel N (.pointer (some (a.add n))) (.pointer (some ((⟨e.r, e.d + a.off, a.spot⟩ : Addr).add n))) := by
  unfold Addr.add
  by_cases hn : n = 0
  · simp only [hn, if_true]; exact .ptr a.block a.off a.spot e h
  · simp only [hn, if_false, Nat.add_assoc]; exact .ptr a.block (a.off + n) none e h

/-- '==' where one side is an address. -/
def aeq (P : Program) (t : TypeId) (x y : Value) : Option Bool :=
  match P.underlying t, x, y with
  | some (.pointer _), .pointer (some _), .pointer none => some false
  | some (.pointer _), .pointer none, .pointer (some _) => some false
  | some (.pointer elem), .pointer (some a), .pointer (some b) =>
    cond (Nat.beq a.block b.block) (match cellsOf P elem with
      | some (_ + 1) => some (decide (a = b))
      | _ => none) none
  | some (.slice _), .slice (some _) _ _, .slice none _ _ => some false
  | some (.slice _), .slice none _ _, .slice (some _) _ _ => some false
  | some (.slice _), .func (.yield 3) _ _, .slice none _ _ => some false
  | some (.map _ _), .map (some _), .map none => some false
  | some (.map _ _), .map none, .map (some _) => some false
  | some (.func _ _ _), .func (.func _) _ _, .nilFunc => some false
  | some (.func _ _ _), .nilFunc, .func (.func _) _ _ => some false
  | some (.interface _), .iface _ _, .nilIface => some false
  | some (.interface _), .nilIface, .iface _ _ => some false
  | some (.slice _), .func (.yield 0) xs _, .slice none _ _ => cond (Nat.blt 0 xs.size) (some false) none
  | _, _, _ => none

theorem equal_succ : ∃ d, ∀ (t : TypeId) (x y : Value), Op.equal t x y = Op.equalIn (d + 1) t x y := ⟨9999, fun _ _ _ => rfl⟩

theorem aeq_ok {P : Program} {N : Emb} {t : TypeId} {x y x' y' : Value} {b : Bool} (h : aeq P t x y = some b) (hx : VRel N x x') (hy : VRel N y y') (w : World) (xo yo : Operand) (op : BinOp) :
    (Op.equal t x' y').run P w = .ok b w ∧ (eqGuard op t xo yo x' y').run P w = .ok () w ∧
    binOp .eql t x' y' = (do pure (.bool (← Op.equal t x' y'))) ∧ binOp .neq t x' y' = (do pure (.bool (!(← Op.equal t x' y')))) := by
  obtain ⟨d, hd⟩ := equal_succ
  unfold aeq at h
  split at h <;> rename_i hu
  all_goals first
    | (cases h; done)
    | skip
  all_goals
    first
      | (cases hx; cases hy
         refine ⟨?_, ?_, rfl, rfl⟩
         · simp only [Option.some.injEq] at h
           rw [hd]
           simp [Op.equalIn, run_underlying hu, h]
         · simp [eqGuard]; try (split <;> rfl))
      | skip
  -- two addresses in one block
  · rename_i elem a c
    cases hb : Nat.beq a.block c.block with
    | false => rw [hb] at h; cases h
    | true =>
      rw [hb] at h
      simp only [cond_true] at h
      have hbe : a.block = c.block := Nat.eq_of_beq_eq_true hb
      obtain ⟨e, he, rfl⟩ := hx.addr
      obtain ⟨f, hf, rfl⟩ := hy.addr
      rw [hbe, hf] at he
      cases he
      cases hn : cellsOf P elem with
      | none => rw [hn] at h; cases h
      | some n =>
        rw [hn] at h
        cases n with
        | zero => cases h
        | succ n =>
          simp only [Option.some.injEq] at h
          refine ⟨?_, ?_, rfl, rfl⟩
          · rw [hd]
            have : ((⟨e.r, e.d + a.off, a.spot⟩ : Addr) == ⟨e.r, e.d + c.off, c.spot⟩) = b := by
              rw [← h, Bool.eq_iff_iff]
              obtain ⟨ab, ao, as⟩ := a
              obtain ⟨cb, co, cs⟩ := c
              simp only at hbe
              subst hbe
              simp
            simp [Op.equalIn, run_underlying hu, run_sizeOf hn, sameAddr, this]
          · simp [eqGuard]; try (split <;> rfl)
  · rename_i xs ys _ _
    cases hb : Nat.blt 0 xs.size with
    | false => rw [hb] at h; cases h
    | true =>
      rw [hb] at h
      cases h
      have hpos : 0 < xs.size := Nat.le_of_ble_eq_true hb
      obtain ⟨bk, o, c, rfl⟩ : ∃ bk o c, x' = .slice (some ⟨bk, o, none⟩) xs.size c := by
        generalize hv : Value.func (.yield 0) xs ys = v at hx
        cases hx with
        | fz0 a c => simp only [fz, Value.func.injEq] at hv; rw [hv.2.1] at hpos; simp at hpos
        | fz zs s bk o c cs hF hb' hc hs hxx =>
          simp only [fz, Value.func.injEq] at hv
          obtain ⟨_, rfl, _⟩ := hv
          exact ⟨bk, o, c, rfl⟩
        | fp x b o cs hF hb hx => simp [fp] at hv
        | any => simp [anyV] at hv
        | ez => simp [ez] at hv
        | xs => simp [xsV] at hv
        | _ => cases hv
      cases hy
      refine ⟨?_, ?_, rfl, rfl⟩
      · rw [hd]
        simp [Op.equalIn, run_underlying hu]
      · simp [eqGuard]; try (split <;> rfl)


/-- Where the parts of a literal go. -/
def places (P : Program) : List Field → Option (List (Nat × Nat))
  | [] => some []
  | f :: fs => match cellsOf P f.type with
    | none => none
    | some n => match places P fs with
      | none => none
      | some r => some ((f.offset, n) :: r)

theorem places_run {P : Program} (w : World) : ∀ (l : List Field) (r : List (Nat × Nat)), places P l = some r →
    (l.mapM (m := Sem) fun f => do pure (f.offset, ← sizeOf f.type)).run P w = .ok r w
  | [], r, h => by simp [places] at h; subst h; simp
  | f :: fs, r, h => by
    unfold places at h
    cases hn : cellsOf P f.type with
    | none => rw [hn] at h; cases h
    | some n =>
      rw [hn] at h
      cases hr : places P fs with
      | none => simp [hr] at h
      | some r' =>
        simp only [hr, Option.some.injEq] at h
        subst h
        have ih := places_run w fs r' hr
        rw [List.mapM_cons]
        simp only [Sem.run_bind, run_sizeOf hn, Result.andThen_ok, Sem.run_pure, ih]

/-- Values are laid into a row, one by one. -/
def putAll (c : Array Value) (off : Nat) : List Value → Array Value
  | [] => c
  | v :: vs => putAll (c.setIfInBounds off v) (off + 1) vs

theorem CRel.set {N : Emb} {c c' : Array Value} (h : CRel N c c') (i : Nat) {v v' : Value} (hv : VRel N v v') : CRel N (c.setIfInBounds i v) (c'.setIfInBounds i v') := by
  refine ⟨by simp [h.1], fun j u u' a b => ?_⟩
  by_cases hij : i = j
  · subst hij
    by_cases hi : i < c.size
    · rw [Array.getElem?_setIfInBounds_self_of_lt hi] at a
      rw [Array.getElem?_setIfInBounds_self_of_lt (h.1 ▸ hi)] at b
      cases a; cases b; exact hv
    · have : (c.setIfInBounds i v)[i]? = none := Array.getElem?_eq_none (by simp; omega)
      rw [this] at a; cases a
  · rw [Array.getElem?_setIfInBounds_ne hij] at a b
    exact h.2 j u u' a b

theorem CRel.putAll {N : Emb} : ∀ (vs vs' : List Value) (c c' : Array Value) (off : Nat), vs.length = vs'.length → (∀ (i : Nat) v v', vs[i]? = some v → vs'[i]? = some v' → VRel N v v') → CRel N c c' →
    CRel N (putAll c off vs) (Ev.putAll c' off vs')
  | [], [], _, _, _, _, _, h => h
  | v :: vs, v' :: vs', c, c', off, hl, hr, h =>
    CRel.putAll vs vs' _ _ (off + 1) (by simpa using hl) (fun i a b x y => hr (i + 1) a b (by simpa using x) (by simpa using y)) (h.set off (hr 0 v v' rfl rfl))

theorem putAll_foldl (off : Nat) : ∀ (l : List Value) (k : Nat) (c : Array Value), (l.zipIdx k).foldl (fun cs (p : Value × Nat) => cs.setIfInBounds (off + p.2) p.1) c = putAll c (off + k) l
  | [], _, _ => rfl
  | v :: l, k, c => by
    simp only [List.zipIdx_cons, List.foldl_cons, putAll]
    rw [putAll_foldl off l (k + 1)]
    rfl

theorem foldl_zipIdx (off : Nat) (vc c : Array Value) : vc.zipIdx.foldl (fun cs (p : Value × Nat) => cs.setIfInBounds (off + p.2) p.1) c = putAll c off vc.toList := by
  rw [← Array.foldl_toList, Array.toList_zipIdx, putAll_foldl off vc.toList 0 c]
  rfl

theorem CRel.toList {N : Emb} {c c' : Array Value} (h : CRel N c c') : c.toList.length = c'.toList.length ∧ ∀ (i : Nat) v v', c.toList[i]? = some v → c'.toList[i]? = some v' → VRel N v v' :=
  ⟨by simpa using h.1, fun i v v' a b => h.2 i v v' (by simpa using a) (by simpa using b)⟩

def fillA (place : Nat → Option (Nat × Nat)) (cells : Array Value) : List (Nat × Value) → Option (Array Value)
  | [] => some cells
  | (i, v) :: rest =>
    match place i with
    | none => none
    | some (off, size) => cond (Nat.beq v.cells.size size && Nat.ble (off + v.cells.size) cells.size && notAny v) (fillA place (putAll cells off v.cells.toList) rest) none

theorem fillA_ok {N : Emb} {ρ ρ' : Operand → Value} (place : Nat → Option (Nat × Nat)) : ∀ (ps : List (Nat × Operand)) (c c' r : Array Value), (∀ p ∈ ps, VRel N (ρ p.2) (ρ' p.2)) → CRel N c c' →
    fillA place c (ps.map fun p => (p.1, ρ p.2)) = some r → ∃ r', Instr.fill place c' (ps.map fun p => (p.1, ρ' p.2)) = some r' ∧ CRel N r r'
  | [], c, c', r, _, hc, h => by simp [fillA] at h; subst h; exact ⟨c', rfl, hc⟩
  | (i, x) :: ps, c, c', r, hp, hc, h => by
    simp only [List.map_cons, fillA] at h
    cases hpl : place i with
    | none => rw [hpl] at h; cases h
    | some q =>
      obtain ⟨off, size⟩ := q
      rw [hpl] at h
      simp only at h
      have hv := hp (i, x) (by simp)
      simp only at hv
      cases hb : (Nat.beq (ρ x).cells.size size && Nat.ble (off + (ρ x).cells.size) c.size && notAny (ρ x)) with
      | false => rw [hb] at h; cases h
      | true =>
        rw [hb] at h
        simp only [cond_true] at h
        simp only [Bool.and_eq_true] at hb
        have hvc := hv.cells hb.2
        have h1 : (ρ x).cells.size = size := Nat.eq_of_beq_eq_true hb.1.1
        have h2 : off + (ρ x).cells.size ≤ c.size := Nat.le_of_ble_eq_true hb.1.2
        have hcp := CRel.putAll (N := N) _ _ c c' off hvc.toList.1 hvc.toList.2 hc
        obtain ⟨r', hr', hrel⟩ := fillA_ok place ps _ _ r (fun p hp' => hp p (by simp [hp'])) hcp h
        refine ⟨r', ?_, hrel⟩
        simp only [List.map_cons, Instr.fill, hpl]
        rw [if_neg (by simp only [Bool.or_eq_true, decide_eq_true_eq, not_or]; rw [← hvc.1, ← hc.1]; simp; omega)]
        rw [foldl_zipIdx]
        exact hr'

def zeroFlat (P : Program) (t : TypeId) : Option Value :=
  match P.info? t with
  | some i => match i.zero with
    | some z => cond (flat2 z) (some z) none
    | none => none
  | none => none

theorem zeroFlat_ok {P : Program} {t : TypeId} {z : Value} (h : zeroFlat P t = some z) : flat2 z = true ∧ ∀ w, (zeroValue t).run P w = .ok z w := by
  unfold zeroFlat at h
  cases hi : P.info? t with
  | none => rw [hi] at h; cases h
  | some i =>
    rw [hi] at h
    simp only at h
    cases hz : i.zero with
    | none => rw [hz] at h; cases h
    | some u =>
      rw [hz] at h
      simp only at h
      cases hf : flat2 u with
      | false => rw [hf] at h; cases h
      | true =>
        rw [hf] at h
        cases h
        exact ⟨hf, fun w => by simp [zeroValue, typeInfo, hi, hz]⟩

def abuild (P : Program) (t : TypeId) (parts : List (Nat × Value)) : Option Value :=
  match zeroFlat P t with
  | none => none
  | some z => match P.underlying t with
    | some (.struct fields) => match places P fields.toList with
      | none => none
      | some pl => (fillA (fun i => pl[i]?) z.cells parts).map .agg
    | some (.array _ elem) => match cellsOf P elem with
      | none => none
      | some s => (fillA (fun i => some (i * s, s)) z.cells parts).map .agg
    | _ => none

theorem abuild_ok {P : Program} {N : Emb} {ρ ρ' : Operand → Value} {t : TypeId} {ps : Array (Nat × Operand)} {v : Value} (hp : ∀ p ∈ ps.toList, VRel N (ρ p.2) (ρ' p.2))
    (h : abuild P t (ps.toList.map fun p => (p.1, ρ p.2)) = some v) (w : World) : ∃ v', (Instr.build t (ps.map fun p => (p.1, ρ' p.2))).run P w = .ok v' w ∧ VRel N v v' := by
  unfold abuild at h
  cases hz : zeroFlat P t with
  | none => rw [hz] at h; cases h
  | some z =>
    rw [hz] at h
    simp only at h
    obtain ⟨zf, zr⟩ := zeroFlat_ok hz
    have hzc := (flat2_refl N zf).cells (flat2_notAny zf)
    split at h
    · rename_i fields hu
      cases hpl : places P fields.toList with
      | none => rw [hpl] at h; cases h
      | some pl =>
        rw [hpl] at h
        simp only [Option.map_eq_some_iff] at h
        obtain ⟨r, hr, rfl⟩ := h
        obtain ⟨r', hr', hrel⟩ := fillA_ok (fun i => pl[i]?) _ _ _ _ hp hzc hr
        refine ⟨.agg r', ?_, .agg _ _ hrel.1 hrel.2⟩
        have hm : (fields.mapM (m := Sem) fun f => do pure (f.offset, ← sizeOf f.type)).run P w = .ok pl.toArray w := by
          rw [Array.mapM_eq_mapM_toList, Sem.run_map, places_run w _ _ hpl]
          rfl
        simp only [Instr.build, Sem.run_bind, zr w, Result.andThen_ok, run_underlying hu, hm]
        simp only [Array.toList_map, List.getElem?_toArray, hr']
        rfl
    · rename_i n elem hu
      cases hs : cellsOf P elem with
      | none => rw [hs] at h; cases h
      | some s =>
        rw [hs] at h
        simp only [Option.map_eq_some_iff] at h
        obtain ⟨r, hr, rfl⟩ := h
        obtain ⟨r', hr', hrel⟩ := fillA_ok (fun i => some (i * s, s)) _ _ _ _ hp hzc hr
        refine ⟨.agg r', ?_, .agg _ _ hrel.1 hrel.2⟩
        simp only [Instr.build, Sem.run_bind, zr w, Result.andThen_ok, run_underlying hu, run_sizeOf hs]
        simp only [Array.toList_map, hr']
        rfl
    · cases h

end Go.Ev

/-
  The abstract evaluator: all pure operations (EvE).
-/
namespace Go.Ev

def afield (P : Program) (s : TypeId) (x : Value) (f : Nat) : Option Value :=
  match P.underlying s, x with
  | some (.struct fields), .agg cs => match fields[f]? with
    | some fd => apart P fd.type cs fd.offset
    | none => none
  | _, _ => none

def afieldAddr (P : Program) (s : TypeId) (x : Value) (f : Nat) : Option Value :=
  match P.underlying s, x with
  | some (.struct fields), .pointer (some a) => match fields[f]? with
    | some fd => match cellsOf P fd.type with
      | some (_ + 1) => some (.pointer (some (a.add fd.offset)))
      | _ => none
    | none => none
  | some (.struct fields), .func (.yield 1) ⟨[.agg cs]⟩ _ => match fields[f]? with
    | some fd => match cellsOf P fd.type with
      | some (n + 1) => match P.underlying fd.type with
        | some d => cond (Nat.ble (fd.offset + (n + 1)) cs.size) (cond (isAggD d) (some (fp (.agg ⟨(cs.toList.drop fd.offset).take (n + 1)⟩)))
            (match cs[fd.offset]? with
            | some v => cond (oneCell v) (some (fp v)) none
            | none => none)) none
        | none => none
      | _ => none
    | none => none
  | _, _ => none

def aindexAddr (P : Program) (t : TypeId) (x i : Value) : Option Value :=
  match i with
  | .int _ k => match P.underlying t, x with
    | some (.slice elem), .slice (some a) len _ => match cellsOf P elem with
      | some s => cond (decide (0 ≤ k) && decide (k < len)) (some (.pointer (some (a.add (k.toNat * s))))) none
      | none => none
    | some (.slice elem), .func (.yield 0) xs _ => match cellsOf P elem with
      | some s => cond (decide (0 ≤ k) && decide (k < xs.size)) (match xs[k.toNat]? with
        | some x => cond (Nat.beq x.cells.size s) (some (fp x)) none
        | none => none) none
      | none => none
    | some (.array len elem), .pointer (some a) => match cellsOf P elem with
      | some s => cond (decide (0 ≤ k) && decide (k < len)) (some (.pointer (some (a.add (k.toNat * s))))) none
      | none => none
    | _, _ => none
  | _ => none

def amakeInterface (P : Program) (t : TypeId) (x : Value) : Option Value :=
  match P.underlying t with
  | some (.interface _) => none
  | some _ => some (.iface t x)
  | none => none

def alen (P : Program) (t : TypeId) (x : Value) : Option Value :=
  match P.underlying t, x with
  | some (.slice _), .slice _ n _ => some (goInt n)
  | _, _ => none

def asliceData (x : Value) : Option Value :=
  match x with
  | .slice (some a) _ (_ + 1) => some (.pointer (some a))
  | .slice none _ _ => some (.pointer none)
  | _ => none

/-- An element of an array that is a value. -/
def aindex (P : Program) (t : TypeId) (x i : Value) : Option Value :=
  match i with
  | .int _ k => match P.underlying t, x with
    | some (.array len elem), .agg cs => match cellsOf P elem with
      | some s => cond (decide (0 ≤ k) && decide (k < (len : Int))) (apart P elem cs (k.toNat * s)) none
      | none => none
    | _, _ => none
  | _ => none


def apure (P : Program) (ρ : Operand → Value) (o : Oper) : Option Value :=
  match o.op with
  | .move x => some (ρ x)
  | .assign x => some (ρ x)
  | .pick c a b => match ρ c with
    | .bool t => some (cond t (ρ a) (ρ b))
    | _ => none
  | .extract t i => match ρ t with
    | .tuple vs => vs[i]?
    | _ => none
  | .nilCheck x => match ρ x with
    | .pointer (some a) => some (.pointer (some a))
    | .func (.func f) a b => some (.func (.func f) a b)
    | .func (.yield 1) ⟨[x]⟩ _ => some (fp x)
    | _ => none
  | .makeFunc (.func f) first captured => some (.func (.func f) (first.map ρ) (captured.map ρ))
  | .makeInterface t x => amakeInterface P t (ρ x)
  | .fieldAddr s x f => afieldAddr P s (ρ x) f
  | .field s x f => afield P s (ρ x) f
  | .indexAddr t x i => aindexAddr P t (ρ x) (ρ i)
  | .build t parts => abuild P t (parts.toList.map fun p => (p.1, ρ p.2))
  | .binOp op t x y _ => cond (flat (ρ x) && flat (ρ y)) (aflat P ρ o) (match op with
    | .eql => (aeq P t (ρ x) (ρ y)).map .bool
    | .neq => (aeq P t (ρ x) (ρ y)).map fun b => .bool (!b)
    | _ => none)
  | .call { callee := .builtin .len, args := ⟨[x]⟩, argTypes := ⟨[t]⟩ } => match ρ x with
    | .slice (some _) _ _ => alen P t (ρ x)
    | .func (.yield 0) xs _ => match P.underlying t with
      | some (.slice _) => some (goInt xs.size)
      | _ => none
    | .func (.yield 4) ⟨[.slice (some a) n c]⟩ _ => alen P t (.slice (some a) n c)
    | _ => aflat P ρ o
  | .call { callee := .builtin .cap, args := ⟨[x]⟩, argTypes := ⟨[t]⟩ } => match ρ x with
    | .func (.yield 4) ⟨[.slice (some _) _ c]⟩ _ => match P.underlying t with
      | some (.slice _) => some (goInt c)
      | _ => none
    | _ => aflat P ρ o
  | .call { callee := .builtin .unsafeSliceData, args := ⟨[x]⟩, argTypes := _ } => asliceData (ρ x)
  | .call { callee := .builtin .append, .. } => none
  | .index t x i => match ρ x with
    | .agg cs => aindex P t (.agg cs) (ρ i)
    | _ => aflat P ρ o
  | .call { callee := .value f, .. } => match ρ f with
    | .func (.func g) _ _ => match P.funcs[g]? with
      | some fn => match fn.body with
        | some _ => none
        | none => aflat P ρ o
      | none => none
    | _ => none
  | .unOp .. | .convert .. | .slice .. | .call .. => aflat P ρ o
  | _ => none


theorem VRel.inv_bool {N : Emb} {b : Bool} {v' : Value} (h : VRel N (.bool b) v') : v' = .bool b := by cases h; rfl
theorem VRel.inv_int {N : Emb} {k : IntKind} {n : Int} {v' : Value} (h : VRel N (.int k n) v') : v' = .int k n := by cases h; rfl
theorem VRel.inv_string {N : Emb} {s : ByteArray} {v' : Value} (h : VRel N (.string s) v') : v' = .string s := by cases h; rfl
theorem VRel.inv_tuple {N : Emb} {c : Array Value} {v' : Value} (h : VRel N (.tuple c) v') : ∃ c', v' = .tuple c' ∧ CRel N c c' := by
  cases h with | tuple c c' hs h => exact ⟨c', rfl, hs, h⟩
theorem VRel.inv_agg {N : Emb} {c : Array Value} {v' : Value} (h : VRel N (.agg c) v') : ∃ c', v' = .agg c' ∧ CRel N c c' := by
  cases h with | agg c c' hs h => exact ⟨c', rfl, hs, h⟩
theorem VRel.inv_func {N : Emb} {g : FuncId} {x y : Array Value} {v' : Value} (h : VRel N (.func (.func g) x y) v') : ∃ f x' y', Fn.func g = .func f ∧ v' = .func (.func f) x' y' ∧ CRel N x x' ∧ CRel N y y' := by
  cases h with | func f x x' y y' hx hy rx ry => exact ⟨_, x', y', rfl, rfl, ⟨hx, rx⟩, hy, ry⟩
theorem VRel.inv_fz {N : Emb} {xs ys : Array Value} {v' : Value} (h : VRel N (.func (.yield 0) xs ys) v') :
    (xs = #[] ∧ ∃ a c, v' = .slice a 0 c) ∨ ∃ s b o c cs, N.F b = some cs ∧ o + xs.size * s ≤ cs.size ∧ xs.size ≤ c ∧ (∀ (i : Nat) x, xs[i]? = some x → x.cells.size = s) ∧
      (∀ (i j : Nat) x v v', xs[i]? = some x → x.cells[j]? = some v → cs[o + i * s + j]? = some v' → VRel N.drop v v') ∧ v' = .slice (some ⟨b, o, none⟩) xs.size c := by
  generalize hv : Value.func (.yield 0) xs ys = v at h
  cases h with
  | fz0 a c => simp only [Ev.fz, Value.func.injEq] at hv; exact .inl ⟨hv.2.1, a, c, rfl⟩
  | fz zs s b o c cs hF hb hc hs hx =>
    simp only [Ev.fz, Value.func.injEq] at hv
    obtain ⟨_, rfl, _⟩ := hv
    exact .inr ⟨s, b, o, c, cs, hF, hb, hc, hs, hx, rfl⟩
  | fp x b o cs hF hb hx => simp [Ev.fp] at hv
  | _ => cases hv
theorem VRel.inv_fp {N : Emb} {xs ys : Array Value} {v' : Value} (h : VRel N (.func (.yield 1) xs ys) v') :
    ∃ x b o cs, xs = #[x] ∧ N.F b = some cs ∧ o + x.cells.size ≤ cs.size ∧ (∀ (j : Nat) v v', x.cells[j]? = some v → cs[o + j]? = some v' → VRel N.drop v v') ∧ v' = .pointer (some ⟨b, o, none⟩) ∧ VRel N (Ev.fp x) v' := by
  have h0 := h
  generalize hv : Value.func (.yield 1) xs ys = v at h
  cases h with
  | fz0 a c => simp [Ev.fz] at hv
  | fz zs s b o c cs hF hb hc hs hx => simp [Ev.fz] at hv
  | fp x b o cs hF hb hx =>
    simp only [Ev.fp, Value.func.injEq] at hv
    exact ⟨x, b, o, cs, hv.2.1, hF, hb, hx, rfl, .fp x b o cs hF hb hx⟩
  | _ => cases hv
theorem VRel.inv_slice {N : Emb} {a : Addr} {n c : Nat} {v' : Value} (h : VRel N (.slice (some a) n c) v') :
    ∃ e o' c', a.spot = none ∧ N a.block = some e ∧ c ≤ c' ∧ (c' = c ∨ (o' + c' * e.s ≤ e.z ∧ o' % e.s = 0)) ∧ ((n = 0 ∧ c = 0 ∧ e.d + a.off ≤ o') ∨ o' = e.d + a.off) ∧ v' = .slice (some ⟨e.r, o', none⟩) n c' := by
  cases h with | slice b o n c e o' c' h hc hz ho => exact ⟨e, o', c', rfl, h, hc, hz, ho, rfl⟩
theorem VRel.inv_xs {N : Emb} {ys zs : Array Value} {v' : Value} (h : VRel N (.func (.yield 4) ys zs) v') : ∃ b n c e, ys = #[.slice (some ⟨b, 0, none⟩) n c] ∧ N b = some e ∧ v' = .slice (some ⟨e.r, e.d, none⟩) n c := by
  generalize hv : Value.func (.yield 4) ys zs = v at h
  cases h with
  | fz0 a c => simp [Ev.fz] at hv
  | fz zs s b o c cs hF hb hc hs hx => simp [Ev.fz] at hv
  | fp x b o cs hF hb hx => simp [Ev.fp] at hv
  | any => simp [Ev.anyV] at hv
  | ez => simp [Ev.ez] at hv
  | xs b n c e h =>
    simp only [Ev.xsV, Value.func.injEq] at hv
    exact ⟨b, n, c, e, hv.2.1, h, rfl⟩
  | _ => cases hv
theorem VRel.of_xs {N : Emb} {b n c : Nat} {v' : Value} (h : VRel N (xsV b n c) v') : VRel N (.slice (some ⟨b, 0, none⟩) n c) v' := by
  obtain ⟨b', n', c', e, h1, h2, rfl⟩ := VRel.inv_xs h
  cases h1
  exact .slice b 0 n c e e.d c h2 (Nat.le_refl _) (.inl rfl) (.inr rfl)
theorem VRel.inv_slice0 {N : Emb} {n c : Nat} {v' : Value} (h : VRel N (.slice none n c) v') : v' = .slice none n c := by cases h; rfl
theorem VRel.inv_map {N : Emb} {r : Nat} {v' : Value} (h : VRel N (.map (some r)) v') : ∃ e, N r = some e ∧ v' = .map (some e.r) := by
  cases h with | map r e h => exact ⟨e, h, rfl⟩

theorem addr_add (b o n : Nat) : (⟨b, o, none⟩ : Addr).add n = ⟨b, o + n, none⟩ := by
  unfold Addr.add
  split
  · rename_i h; rw [h]; rfl
  · rfl
theorem cells_one {v : Value} (h : oneCell v = true) : v.cells = #[v] := by
  cases v <;> first | rfl | cases h

theorem afieldAddr_ok {P : Program} {N : Emb} {s : TypeId} {x x' : Value} {f : Nat} {v : Value} (h : afieldAddr P s x f = some v) (hx : VRel N x x') (w : World) :
    ∃ v', (Instr.fieldAt s x' f).run P w = .ok v' w ∧ VRel N v v' := by
  unfold afieldAddr at h
  split at h
  · rename_i fields a hu
    obtain ⟨e, he, rfl⟩ := hx.addr
    split at h
    · rename_i fd hfd
      split at h
      · rename_i n hn
        cases h
        exact ⟨_, by simp [Instr.fieldAt, run_underlying hu, hfd, Instr.sureAddr, fieldPlace, run_sizeOf hn], VRel.add he _⟩
      · cases h
    · cases h
  · rename_i fields cs ys hu
    obtain ⟨x, b, o, cs', hxe, hF, hb, hcx, rfl, _⟩ := hx.inv_fp
    cases hxe
    split at h
    · rename_i fd hfd
      split at h
      · rename_i n hn
        split at h
        · rename_i d hd
          cases hle : Nat.ble (fd.offset + (n + 1)) cs.size with
          | false => rw [hle] at h; cases h
          | true =>
            rw [hle] at h
            simp only [cond_true] at h
            have hle' := Nat.le_of_ble_eq_true hle
            have hcs : (Value.agg cs).cells = cs := rfl
            rw [hcs] at hb
            refine ⟨.pointer (some ((⟨b, o, none⟩ : Addr).add fd.offset)), by simp [Instr.fieldAt, run_underlying hu, hfd, Instr.sureAddr, fieldPlace, run_sizeOf hn], ?_⟩
            rw [addr_add]
            cases ha : isAggD d with
            | true =>
              rw [ha] at h
              cases h
              refine .fp _ b (o + fd.offset) cs' hF ?_ ?_
              · simp only [Value.cells, List.size_toArray, List.length_take, List.length_drop, Array.length_toList]
                omega
              · intro j v v' hj hj'
                simp only [Value.cells, List.getElem?_toArray, List.getElem?_take, List.getElem?_drop] at hj
                split at hj
                · exact hcx (fd.offset + j) v v' (by simpa [Value.cells] using hj) (by rw [← Nat.add_assoc]; exact hj')
                · cases hj
            | false =>
              rw [ha] at h
              simp only [cond_false] at h
              split at h
              · rename_i v hv
                cases ho : oneCell v with
                | false => rw [ho] at h; cases h
                | true =>
                  rw [ho] at h
                  cases h
                  have hc1 := cells_one ho
                  refine .fp _ b (o + fd.offset) cs' hF (by rw [hc1]; simp; omega) ?_
                  intro j u u' hj hj'
                  rw [hc1] at hj
                  cases j with
                  | zero =>
                    simp at hj
                    subst hj
                    exact hcx fd.offset v u' (by simpa [Value.cells] using hv) hj'
                  | succ j => simp at hj
              · cases h
        · cases h
      · cases h
    · cases h
  · cases h

theorem afield_ok {P : Program} {N : Emb} {s : TypeId} {x x' : Value} {f : Nat} {v : Value} (h : afield P s x f = some v) (hx : VRel N x x') (w : World) :
    ∃ v', (Instr.field s x' f).run P w = .ok v' w ∧ VRel N v v' := by
  unfold afield at h
  split at h
  · rename_i fields cs hu
    obtain ⟨c', rfl, hc⟩ := hx.inv_agg
    split at h
    · rename_i fd hfd
      obtain ⟨v', h1, h2⟩ := apart_ok h hc w
      exact ⟨v', by simp [Instr.field, run_underlying hu, hfd, asAgg, h1], h2⟩
    · cases h
  · cases h

theorem aindex_ok {P : Program} {N : Emb} {t : TypeId} {x x' i i' : Value} {v : Value} (h : aindex P t x i = some v) (hx : VRel N x x') (hi : VRel N i i') (w : World) :
    ∃ v', (Instr.index t x' i').run P w = .ok v' w ∧ VRel N v v' := by
  unfold aindex at h
  split at h
  · rename_i kk k
    obtain rfl := hi.inv_int
    split at h
    · rename_i len elem cs hu
      obtain ⟨c', rfl, hc⟩ := hx.inv_agg
      split at h
      · rename_i s hs
        cases hb : (decide (0 ≤ k) && decide (k < (len : Int))) with
        | false => rw [hb] at h; cases h
        | true =>
          rw [hb] at h
          simp only [Bool.and_eq_true, decide_eq_true_eq] at hb
          obtain ⟨v', h1, h2⟩ := apart_ok h hc w
          exact ⟨v', by simp [Instr.index, asIntOf, run_underlying hu, hb, run_sizeOf hs, h1], h2⟩
      · cases h
    · cases h
  · cases h

theorem aindexAddr_ok {P : Program} {N : Emb} {t : TypeId} {x x' i i' : Value} {v : Value} (h : aindexAddr P t x i = some v) (hx : VRel N x x') (hi : VRel N i i') (w : World) :
    ∃ v', (Instr.indexAt t x' i').run P w = .ok v' w ∧ VRel N v v' := by
  unfold aindexAddr at h
  split at h
  · rename_i kk k
    obtain rfl := hi.inv_int
    split at h
    · rename_i elem a len c hu
      obtain ⟨e, o', c', hsp, he, hc, hz, ho, rfl⟩ := hx.inv_slice
      split at h
      · rename_i s hs
        cases hb : (decide (0 ≤ k) && decide (k < (len : Int))) with
        | false => rw [hb] at h; cases h
        | true =>
          rw [hb] at h
          cases h
          simp only [Bool.and_eq_true, decide_eq_true_eq] at hb
          have ho' : o' = e.d + a.off := by
            rcases ho with ⟨h0, _⟩ | h0
            · omega
            · exact h0
          refine ⟨.pointer (some ((⟨e.r, o', none⟩ : Addr).add (k.toNat * s))), by simp [Instr.indexAt, asIntOf, run_underlying hu, hb, run_sizeOf hs], ?_⟩
          have := VRel.add (a := a) he (k.toNat * s)
          rw [hsp] at this
          rw [ho']
          exact this
      · cases h
    · rename_i elem xs ys hu
      split at h
      · rename_i s hs
        cases hb : (decide (0 ≤ k) && decide (k < (xs.size : Int))) with
        | false => rw [hb] at h; cases h
        | true =>
          rw [hb] at h
          simp only [cond_true] at h
          simp only [Bool.and_eq_true, decide_eq_true_eq] at hb
          split at h
          · rename_i x hxk
            cases he : Nat.beq x.cells.size s with
            | false => rw [he] at h; cases h
            | true =>
              rw [he] at h
              cases h
              have he' := Nat.eq_of_beq_eq_true he
              rcases hx.inv_fz with ⟨rfl, _⟩ | ⟨s', b, o, c, cs, hF, hbd, hc, hsz, hcx, rfl⟩
              · simp at hxk
              · have hs' := hsz _ _ hxk
                have : s' = s := by omega
                subst this
                refine ⟨.pointer (some ((⟨b, o, none⟩ : Addr).add (k.toNat * s'))), by simp [Instr.indexAt, asIntOf, run_underlying hu, hb, run_sizeOf hs], ?_⟩
                rw [addr_add]
                refine .fp x b _ cs hF ?_ (fun j v v' hj hj' => hcx _ j x v v' hxk hj hj')
                have h1 : k.toNat < xs.size := by omega
                have h2 : (k.toNat + 1) * s' ≤ xs.size * s' := Nat.mul_le_mul_right _ h1
                rw [Nat.add_mul] at h2
                omega
          · cases h
      · cases h
    · rename_i len elem a hu
      obtain ⟨e, he, rfl⟩ := hx.addr
      split at h
      · rename_i s hs
        cases hb : (decide (0 ≤ k) && decide (k < (len : Int))) with
        | false => rw [hb] at h; cases h
        | true =>
          rw [hb] at h
          cases h
          simp only [Bool.and_eq_true, decide_eq_true_eq] at hb
          exact ⟨_, by simp [Instr.indexAt, asIntOf, run_underlying hu, hb, run_sizeOf hs, Instr.sureAddr], VRel.add (a := a) he (k.toNat * s)⟩
      · cases h
    · cases h
  · cases h

theorem apure_ok {P : Program} {ρ : Operand → Value} {o : Oper} {v : Value} (h : apure P ρ o = some v) : PureOK P o ρ v := by
  intro N w ρ' hρ
  have hρ0 := hρ
  unfold apure at h
  split at h <;> rename_i hop
  · -- move
    rename_i x
    cases h
    exact ⟨ρ' x, by simp [execOp, hop], hρ x (by simp [hop, Op.operands])⟩
  · rename_i x
    cases h
    exact ⟨ρ' x, by simp [execOp, hop], hρ x (by simp [hop, Op.operands])⟩
  · -- pick
    rename_i c a b
    have hc := hρ c (by simp [hop, Op.operands])
    have ha := hρ a (by simp [hop, Op.operands])
    have hb := hρ b (by simp [hop, Op.operands])
    split at h
    · rename_i t ht
      rw [ht] at hc
      have e := hc.inv_bool
      cases h
      cases t
      · exact ⟨ρ' b, by simp [execOp, hop, e, asBool], hb⟩
      · exact ⟨ρ' a, by simp [execOp, hop, e, asBool], ha⟩
    · cases h
  · -- extract
    rename_i t i
    have ht := hρ t (by simp [hop, Op.operands])
    split at h
    · rename_i vs hv
      rw [hv] at ht
      obtain ⟨c', e, hc⟩ := ht.inv_tuple
      obtain ⟨v', h1, h2⟩ := hc.get h
      exact ⟨v', by simp [execOp, hop, e, Instr.extract, h1], h2⟩
    · cases h
  · -- nilCheck
    rename_i x
    have hx := hρ x (by simp [hop, Op.operands])
    split at h
    · rename_i a ha
      rw [ha] at hx
      cases h
      obtain ⟨e, he, e2⟩ := hx.addr
      exact ⟨_, by simp [execOp, hop, e2]; rfl, by rw [← e2]; exact hx⟩
    · rename_i f a b ha
      rw [ha] at hx
      cases h
      obtain ⟨f', x', y', e1, e2, _, _⟩ := hx.inv_func
      cases e1
      exact ⟨_, by simp [execOp, hop, e2]; rfl, by rw [← e2]; exact hx⟩
    · rename_i x0 ys ha
      rw [ha] at hx
      cases h
      obtain ⟨x1, b, o', cs, e0, _, _, _, e2, hv⟩ := hx.inv_fp
      cases e0
      exact ⟨_, by simp [execOp, hop, e2]; rfl, by rw [← e2]; exact hv⟩
    · cases h
  · -- makeFunc
    rename_i f first captured
    cases h
    have h1 : CRel N (first.map ρ) (first.map ρ') := CRel.map fun x hx => hρ x (by simp [hop, Op.operands, hx])
    have h2 : CRel N (captured.map ρ) (captured.map ρ') := CRel.map fun x hx => hρ x (by simp [hop, Op.operands, hx])
    exact ⟨.func (.func f) (first.map ρ') (captured.map ρ'), by simp [execOp, hop, Instr.makeFunc], .func f _ _ _ _ h1.1 h2.1 h1.2 h2.2⟩
  · -- makeInterface
    rename_i t x
    have hx := hρ x (by simp [hop, Op.operands])
    unfold amakeInterface at h
    split at h
    · cases h
    · rename_i d hd hu
      cases h
      refine ⟨.iface t (ρ' x), ?_, .iface t _ _ hx⟩
      simp only [execOp, hop, Instr.makeInterface, Sem.run_bind, run_underlying hu, Result.andThen_ok]
      cases d <;> first | rfl | exact absurd rfl (hd _)
    · cases h
  · -- fieldAddr
    rename_i s x f
    obtain ⟨v', h1, h2⟩ := afieldAddr_ok h (hρ x (by simp [hop, Op.operands])) w
    exact ⟨v', by simp [execOp, hop, h1], h2⟩
  · rename_i s x f
    obtain ⟨v', h1, h2⟩ := afield_ok h (hρ x (by simp [hop, Op.operands])) w
    exact ⟨v', by simp [execOp, hop, h1], h2⟩
  · rename_i t x i
    obtain ⟨v', h1, h2⟩ := aindexAddr_ok h (hρ x (by simp [hop, Op.operands])) (hρ i (by simp [hop, Op.operands])) w
    exact ⟨v', by simp [execOp, hop, h1], h2⟩
  · -- build
    rename_i t ps
    obtain ⟨v', h1, h2⟩ := abuild_ok (N := N) (ρ' := ρ') (fun p hp => hρ p.2 (by simp only [hop, Op.operands]; exact List.mem_toArray.2 (List.mem_map.2 ⟨p, hp, rfl⟩))) h w
    exact ⟨v', by simp [execOp, hop, h1], h2⟩
  · -- binOp
    rename_i op t x y yt
    have hx := hρ x (by simp [hop, Op.operands])
    have hy := hρ y (by simp [hop, Op.operands])
    cases hb : (flat (ρ x) && flat (ρ y)) with
    | true => rw [hb] at h; exact aflat_ok h N w ρ' hρ0
    | false =>
      rw [hb] at h
      simp only [cond_false] at h
      split at h
      · simp only [Option.map_eq_some_iff] at h
        obtain ⟨b, hb, rfl⟩ := h
        obtain ⟨h1, h2, h3, _⟩ := aeq_ok hb hx hy w x y .eql
        exact ⟨.bool b, by simp [execOp, hop, h2, h3, h1], .bool b⟩
      · simp only [Option.map_eq_some_iff] at h
        obtain ⟨b, hb, rfl⟩ := h
        obtain ⟨h1, h2, _, h3⟩ := aeq_ok hb hx hy w x y .neq
        exact ⟨.bool (!b), by simp [execOp, hop, h2, h3, h1], .bool _⟩
      · cases h
  · -- len
    rename_i x t
    have hx := hρ x (by simp [hop, Op.operands, Call.operands])
    split at h
    · rename_i a n c ha
      rw [ha] at hx h
      unfold alen at h
      split at h
      · rename_i e1 e2 e3 e4 e5 hu he
        cases he
        cases h
        obtain ⟨e, o', c', _, _, _, _, _, e2⟩ := hx.inv_slice
        exact ⟨goInt n, by simp [execOp, hop, resolve, invoke, builtin, Builtin.len_, e2, run_underlying hu], .int _ _⟩
      · cases h
    · rename_i xs ys ha
      rw [ha] at hx
      split at h
      · rename_i e1 hu
        cases h
        rcases hx.inv_fz with ⟨rfl, a, c, e2⟩ | ⟨s', b, o', c, cs, hF, hbd, hc, hsz, hcx, e2⟩
        · exact ⟨goInt 0, by simp [execOp, hop, resolve, invoke, builtin, Builtin.len_, e2, run_underlying hu], .int _ _⟩
        · exact ⟨goInt xs.size, by simp [execOp, hop, resolve, invoke, builtin, Builtin.len_, e2, run_underlying hu], .int _ _⟩
      · cases h
    · rename_i a n c zs ha
      rw [ha] at hx
      obtain ⟨b, n2, c2, e, h1, h2, e2⟩ := hx.inv_xs
      cases h1
      unfold alen at h
      split at h
      · rename_i hu he
        cases he
        cases h
        exact ⟨goInt n, by simp [execOp, hop, resolve, invoke, builtin, Builtin.len_, e2, run_underlying hu], .int _ _⟩
      · cases h
    · exact aflat_ok h N w ρ' hρ0
  · -- cap
    rename_i x t
    have hx := hρ x (by simp [hop, Op.operands, Call.operands])
    split at h
    · rename_i a n c zs ha
      rw [ha] at hx
      obtain ⟨b, n2, c2, e, h1, h2, e2⟩ := hx.inv_xs
      cases h1
      split at h
      · rename_i e1 hu
        cases h
        exact ⟨goInt c, by simp [execOp, hop, resolve, invoke, builtin, Builtin.cap_, e2, run_underlying hu], .int _ _⟩
      · cases h
    · exact aflat_ok h N w ρ' hρ0
  · -- unsafeSliceData
    rename_i x ts
    have hx := hρ x (by simp [hop, Op.operands, Call.operands])
    unfold asliceData at h
    split at h
    · rename_i a n c ha
      rw [ha] at hx
      cases h
      obtain ⟨e, o', c', h1, h2, h3, h4, h5, e2⟩ := hx.inv_slice
      obtain ⟨k, rfl⟩ : ∃ k, c' = k + 1 := ⟨c' - 1, by omega⟩
      have h6 : o' = e.d + a.off := h5.resolve_left (by omega)
      refine ⟨.pointer (some ⟨e.r, o', none⟩), ?_, ?_⟩
      · simp only [execOp, hop, resolve, Sem.run_bind, Sem.run_pure, Result.andThen_ok, invoke, builtin]
        simp only [List.map_toArray, List.map_cons, List.map_nil, e2]
        rw [Lib.run_unsafeSliceData_row w ts o.type ⟨e.r, o', none⟩ n (k + 1) (by omega)]
        rfl
      · obtain ⟨ab, ao, as⟩ := a
        simp only at h1 h2 h6
        subst h1 h6
        exact .ptr ab ao none e h2
    · rename_i n c ha
      rw [ha] at hx
      cases h
      have e2 := hx.inv_slice0
      refine ⟨.pointer none, ?_, .ptr0⟩
      simp only [execOp, hop, resolve, Sem.run_bind, Sem.run_pure, Result.andThen_ok, invoke, builtin]
      simp only [List.map_toArray, List.map_cons, List.map_nil, e2]
      rfl
    · cases h
  · cases h
  · -- index
    rename_i t x i
    split at h
    · rename_i cs ha
      have hx := hρ x (by simp [hop, Op.operands])
      rw [ha] at hx
      obtain ⟨v', h1, h2⟩ := aindex_ok h hx (hρ i (by simp [hop, Op.operands])) w
      exact ⟨v', by simp [execOp, hop, h1], h2⟩
    · exact aflat_ok h N w ρ' hρ0
  all_goals first
    | exact aflat_ok h N w ρ' hρ0
    | (cases h; done)
    | (split at h
       · split at h
         · split at h
           · cases h
           · exact aflat_ok h N w ρ' hρ0
         · cases h
       · cases h)

end Go.Ev

/-
  The abstract evaluator: how the heap turns (EvF).
-/
namespace Go.Ev

theorem beq_no {i j : Nat} (h : i ≠ j) : Nat.beq i j = false := by
  cases hb : Nat.beq i j with
  | false => rfl
  | true => exact absurd (Nat.eq_of_beq_eq_true hb) h

theorem look_cons_self (i : Nat) (o : Obj) (l : List (Nat × Obj)) : look i ((i, o) :: l) = some o := by
  simp [look]

theorem look_cons_ne {i j : Nat} (h : j ≠ i) (o : Obj) (l : List (Nat × Obj)) : look i ((j, o) :: l) = look i l := by
  have : Nat.beq j i = false := beq_no h
  simp [look, this]

theorem look_setB_self {i : Nat} {o p : Obj} : ∀ {l : List (Nat × Obj)}, look i l = some p → look i (setB i o l) = some o
  | (j, q) :: l, h => by
    by_cases hj : j = i
    · subst hj; simp [setB, look]
    · have hb : Nat.beq j i = false := beq_no hj
      simp only [look, hb, cond_false] at h
      simp only [setB, hb, cond_false, look]
      exact look_setB_self h

theorem look_setB_ne {i j : Nat} (h : j ≠ i) (o : Obj) : ∀ (l : List (Nat × Obj)), look j (setB i o l) = look j l
  | [] => rfl
  | (k, q) :: l => by
    by_cases hk : k = i
    · subst hk
      have hb : Nat.beq k j = false := beq_no (fun e => h e.symm)
      simp [setB, look, hb]
    · have hb : Nat.beq k i = false := beq_no hk
      simp only [setB, hb, cond_false, look]
      rw [look_setB_ne h o l]

theorem look_delB_self {i : Nat} : ∀ (l : List (Nat × Obj)), look i (delB i l) = none
  | [] => rfl
  | (k, q) :: l => by
    by_cases hk : k = i
    · subst hk; simp [delB]; exact look_delB_self l
    · have hb : Nat.beq k i = false := beq_no hk
      simp only [delB, hb, cond_false, look]
      exact look_delB_self l

theorem look_delB_ne {i j : Nat} (h : j ≠ i) : ∀ (l : List (Nat × Obj)), look j (delB i l) = look j l
  | [] => rfl
  | (k, q) :: l => by
    by_cases hk : k = i
    · subst hk
      have hb : Nat.beq k j = false := beq_no (fun e => h e.symm)
      simp [delB, look, hb, look_delB_ne h l]
    · have hb : Nat.beq k i = false := beq_no hk
      simp only [delB, hb, cond_false, look]
      rw [look_delB_ne h l]

/-- One more name. -/
def Emb.add (N : Emb) (i : Nat) (e : Ent) : Emb := { m := fun j => if j = i then some e else N j, F := N.F }

theorem Emb.le_add {N : Emb} {i : Nat} (h : N i = none) (e : Ent) : Emb.le N (N.add i e) := by
  refine ⟨fun j f hj => ?_, fun _ _ x => x⟩
  simp only [Emb.add]
  by_cases hji : j = i
  · subst hji; rw [h] at hj; cases hj
  · rw [if_neg hji]; exact hj

theorem Emb.add_F (N : Emb) (i : Nat) (e : Ent) : (N.add i e).F = N.F := rfl

theorem Emb.add_self (N : Emb) (i : Nat) (e : Ent) : N.add i e i = some e := by simp [Emb.add]

/-- A new block. -/
theorem ext_push {P : Program} {N : Emb} {h : AH} {w w' : World} (hr : HRel P N h w) (hf : N h.next = none) (o o' : Obj) (s z : Nat)
    (ho : ORel P (N.add h.next ⟨w.heap.size, 0, s, z⟩) ⟨w.heap.size, 0, s, z⟩ o o')
    (hw : w'.heap = w.heap.push o') (ht : w'.tape = w.tape) (hos : w'.os = w.os) (hout : w'.output = w.output) :
    Ext P N h w (N.add h.next ⟨w.heap.size, 0, s, z⟩) (h.push o) w' := by
  have hle := Emb.le_add hf ⟨w.heap.size, 0, s, z⟩
  have hnone : h.get h.next = none := by
    cases hg : h.get h.next with
    | none => rfl
    | some p => obtain ⟨e, _, he, _⟩ := hr.here _ _ hg; rw [hf] at he; cases he
  have hsz : w'.heap.size = w.heap.size + 1 := by rw [hw]; simp
  have hold : ∀ j, j < w.heap.size → w'.heap[j]? = w.heap[j]? := fun j hj => by
    rw [hw, Array.getElem?_push_lt hj, Array.getElem?_eq_getElem hj]
  have hget : ∀ i, i ≠ h.next → (h.push o).get i = h.get i := fun i hi => look_cons_ne (fun e => hi e.symm) o h.blocks
  have hgets : (h.push o).get h.next = some o := look_cons_self _ _ _
  have hNe : ∀ i, i ≠ h.next → (N.add h.next ⟨w.heap.size, 0, s, z⟩) i = N i := fun i hi => by simp [Emb.add, hi]
  refine { le := hle, new := ?_, newF := fun b c q1 q2 => (by rw [Emb.add_F, q2] at q1; cases q1), rel := ⟨?_, ?_, ?_, ?_, by rw [Emb.add_F]; exact hr.req⟩, size := by rw [hsz]; omega, keep := fun b hb _ => hold b hb, tape := ht, os := hos, output := hout, alive := ?_, nxt := by simp [AH.push], low := Nat.le_refl _, old := ?_ }
  · intro i e hi hn
    by_cases hin : i = h.next
    · subst hin
      rw [Emb.add_self] at hi
      cases hi
      exact ⟨Nat.le_refl _, by simp [AH.push], .inl (Nat.le_refl _)⟩
    · rw [hNe i hin, hn] at hi; cases hi
  · intro i p hp
    by_cases hin : i = h.next
    · subst hin
      rw [hgets] at hp
      cases hp
      exact ⟨_, o', Emb.add_self _ _ _, by rw [hw]; simp, ho⟩
    · rw [hget i hin] at hp
      obtain ⟨e, q, h1, h2, h3⟩ := hr.here i p hp
      exact ⟨e, q, hle i e h1, by rw [hold _ (lt_of_some h2)]; exact h2, h3.mono hle⟩
  · intro i j p q e f hi hj he hf' hef
    by_cases hin : i = h.next
    · by_cases hjn : j = h.next
      · rw [hin, hjn]
      · subst hin
        rw [Emb.add_self] at he
        cases he
        rw [hget j hjn] at hj
        rw [hNe j hjn] at hf'
        obtain ⟨g, _, h1, h2, _⟩ := hr.here j q hj
        rw [hf'] at h1
        cases h1
        have := lt_of_some h2
        simp only at hef
        omega
    · rw [hget i hin] at hi
      rw [hNe i hin] at he
      by_cases hjn : j = h.next
      · subst hjn
        rw [Emb.add_self] at hf'
        cases hf'
        obtain ⟨g, _, h1, h2, _⟩ := hr.here i p hi
        rw [he] at h1
        cases h1
        have := lt_of_some h2
        simp only at hef
        omega
      · rw [hget j hjn] at hj
        rw [hNe j hjn] at hf'
        exact hr.inj i j p q e f hi hj he hf' hef
  · intro i p hp
    by_cases hin : i = h.next
    · subst hin; simp [AH.push]
    · rw [hget i hin] at hp
      have := hr.ids i p hp
      simp only [AH.push]
      omega
  · intro b c hb
    rw [Emb.add_F] at hb
    obtain ⟨⟨t, fr, q1⟩, q2⟩ := hr.froz b c hb
    refine ⟨⟨t, fr, by rw [hold _ (lt_of_some q1)]; exact q1⟩, fun i p e hp he => ?_⟩
    by_cases hin : i = h.next
    · subst hin
      rw [Emb.add_self] at he
      cases he
      have := lt_of_some q1
      simp only
      omega
    · rw [hget i hin] at hp
      rw [hNe i hin] at he
      exact q2 i p e hp he
  · intro i p hp
    by_cases hin : i = h.next
    · subst hin; exact .inr ⟨Nat.le_refl _, by simp [AH.push]⟩
    · rw [hget i hin] at hp; exact .inl ⟨p, hp⟩
  · intro i hi _
    exact hget i (by omega)

/-- A block is written. -/
theorem ext_set {P : Program} {N : Emb} {h : AH} {w w' : World} (hr : HRel P N h w) {b : Nat} {o₀ o o' : Obj} {e : Ent} (hb : h.get b = some o₀) (he : N b = some e)
    (ho : ORel P N e o o') (hsz : w'.heap.size = w.heap.size) (hself : w'.heap[e.r]? = some o') (hoth : ∀ j, j ≠ e.r → w'.heap[j]? = w.heap[j]?)
    (ht : w'.tape = w.tape) (hos : w'.os = w.os) (hout : w'.output = w.output) : Ext P N h w N (h.set b o) w' := by
  have hget : ∀ i, i ≠ b → (h.set b o).get i = h.get i := fun i hi => look_setB_ne hi o h.blocks
  have hgets : (h.set b o).get b = some o := look_setB_self hb
  refine { le := Emb.le_refl N, new := ?_, newF := fun b c q1 q2 => (by rw [q2] at q1; cases q1), rel := ⟨?_, ?_, ?_, ?_, hr.req⟩, size := by rw [hsz]; exact Nat.le_refl _, keep := ?_, tape := ht, os := hos, output := hout, alive := ?_, nxt := Nat.le_refl _, low := Nat.min_le_left _ _, old := ?_ }
  · intro i f hi hn; rw [hi] at hn; cases hn
  · intro i p hp
    by_cases hib : i = b
    · subst hib
      rw [hgets] at hp
      cases hp
      exact ⟨e, o', he, hself, ho⟩
    · rw [hget i hib] at hp
      obtain ⟨f, q, h1, h2, h3⟩ := hr.here i p hp
      refine ⟨f, q, h1, ?_, h3⟩
      rw [hoth _ (fun hef => hib (hr.inj i b p o₀ f e hp hb h1 he hef))]
      exact h2
  · intro i j p q f g hi hj hf hg hfg
    have : ∀ i p, (h.set b o).get i = some p → ∃ p', h.get i = some p' := fun i p hp => by
      by_cases hib : i = b
      · subst hib; exact ⟨_, hb⟩
      · rw [hget i hib] at hp; exact ⟨p, hp⟩
    obtain ⟨p', hp'⟩ := this i p hi
    obtain ⟨q', hq'⟩ := this j q hj
    exact hr.inj i j p' q' f g hp' hq' hf hg hfg
  · intro i p hp
    by_cases hib : i = b
    · subst hib; exact hr.ids i _ hb
    · rw [hget i hib] at hp; exact hr.ids i p hp
  · intro k c hk
    obtain ⟨⟨t, fr, q1⟩, q2⟩ := hr.froz k c hk
    refine ⟨⟨t, fr, by rw [hoth _ (fun q => q2 b o₀ e hb he q.symm)]; exact q1⟩, fun i p f hp hf => ?_⟩
    by_cases hib : i = b
    · subst hib; exact q2 i o₀ f hb hf
    · rw [hget i hib] at hp; exact q2 i p f hp hf
  · intro blk _ hk
    exact hoth blk (fun hbe => hk b o₀ e hb he hbe.symm)
  · intro i p hp
    by_cases hib : i = b
    · subst hib; exact .inl ⟨_, hb⟩
    · rw [hget i hib] at hp; exact .inl ⟨p, hp⟩
  · intro i _ hi
    have : i < b := Nat.lt_of_lt_of_le hi (Nat.min_le_right _ _)
    exact hget i (by omega)

/-- What a heap operation owes. -/
def HeapOK (P : Program) (o : Oper) (ρ : Operand → Value) (h : AH) (v : Value) (h' : AH) : Prop :=
  ∀ (N : Emb) (w : World) (ρ' : Operand → Value), (∀ x ∈ o.op.operands, VRel N (ρ x) (ρ' x)) → HRel P N h w → Fresh N h h' →
    ∃ n v' w' N', (execOp ρ' o).run P w = .ok n w' ∧ (n = .value v' ∨ (n = .skip ∧ v' = undef)) ∧ VRel N' v v' ∧ Ext P N h w N' h' w'

/-- A row of cells, as it lies. -/
theorem HRel.row {P : Program} {N : Emb} {h : AH} {w : World} (hr : HRel P N h w) {b : Nat} {c : Array Value} {t : TypeId} {fr : Nat × Nat} {e : Ent} (hb : h.get b = some (.cells c t fr)) (he : N b = some e) :
    ∃ c' fr', w.heap[e.r]? = some (.cells c' t fr') ∧ c'.size = e.z ∧ e.d + c.size ≤ e.z ∧ e.s = width P t ∧ e.d % e.s = 0 ∧
      (∀ (i : Nat) v, c[i]? = some v → ∃ v', c'[e.d + i]? = some v' ∧ VRel N v v') ∧ FrRel fr fr' e.d c.size e.z := by
  obtain ⟨f, o', h1, h2, h3⟩ := hr.here b _ hb
  rw [he] at h1
  cases h1
  obtain ⟨c', fr', rfl, rest⟩ := h3
  exact ⟨c', fr', h2, rest⟩

theorem cell_eq {w : World} {r off : Nat} {c : Array Value} {t : TypeId} {fr : Nat × Nat} (h : w.heap[r]? = some (.cells c t fr)) : w.cell? ⟨r, off, none⟩ = c[off]? := by
  simp [World.cell?, h]

theorem frozen_eq {w : World} {r off : Nat} {c : Array Value} {t : TypeId} {fr : Nat × Nat} (h : w.heap[r]? = some (.cells c t fr)) : w.frozen? ⟨r, off, none⟩ = (decide (fr.1 ≤ off) && decide (off < fr.2)) := by
  simp [World.frozen?, h]

end Go.Ev

/-
  The abstract evaluator: loads, stores and new blocks (EvG).
-/
namespace Go.Ev

/-- A row of cells, and where it lies in a longer one. -/
def RowRel (N : Emb) (d : Nat) (c c' : Array Value) : Prop := ∀ (i : Nat) v, c[i]? = some v → ∃ v', c'[d + i]? = some v' ∧ VRel N v v'

theorem RowRel.dropTake {N : Emb} {d : Nat} {c c' : Array Value} (h : RowRel N d c c') {off n : Nat} (hn : off + n ≤ c.size) (hc : d + c.size ≤ c'.size) :
    CRel N ⟨(c.toList.drop off).take n⟩ ⟨(c'.toList.drop (d + off)).take n⟩ := by
  refine ⟨by simp; omega, fun i v v' a b => ?_⟩
  simp only [List.getElem?_toArray, List.getElem?_take, List.getElem?_drop] at a b
  split at a
  · rename_i hi
    rw [if_pos hi] at b
    obtain ⟨u, h1, h2⟩ := h (off + i) v (by simpa using a)
    rw [← Nat.add_assoc] at h1
    simp only [Array.getElem?_toList] at b
    rw [h1] at b
    cases b
    exact h2
  · cases a

theorem add_none (r off j : Nat) : (⟨r, off, none⟩ : Addr).add j = ⟨r, off + j, none⟩ := by
  unfold Addr.add
  by_cases h : j = 0
  · simp [h]
  · simp [h]

theorem run_loadRow {P : Program} {w : World} {r : Nat} {c' : Array Value} {t : TypeId} {fr : Nat × Nat} (hw : w.heap[r]? = some (.cells c' t fr)) (off n : Nat) (hn : off + n ≤ c'.size) :
    (loadCells ⟨r, off, none⟩ n).run P w = .ok ⟨(c'.toList.drop off).take n⟩ w := by
  have hl : ((c'.toList.drop off).take n).length = n := by simp; omega
  have := run_loadCells_list (P := P) w ⟨r, off, none⟩ ((c'.toList.drop off).take n) (fun j v hv => by
    rw [add_none, cell_eq hw]
    simp only [List.getElem?_take, List.getElem?_drop] at hv
    split at hv
    · simpa using hv
    · cases hv)
  rw [hl] at this
  exact this

def aload (P : Program) (t : TypeId) (x : Value) (h : AH) : Option Value :=
  match x with
  | .pointer (some a) => match P.underlying t with
    | none => none
    | some d => match h.get a.block with
      | some (.cells c _ _) => cond a.spot.isNone (cond (isAggD d) (match cellsOf P t with
          | some n => cond (Nat.ble (a.off + n) c.size) (some (.agg ⟨(c.toList.drop a.off).take n⟩)) none
          | none => none) c[a.off]?) none
      | _ => none
  | .func (.yield 1) ⟨[x]⟩ _ => match P.underlying t with
    | none => none
    | some d => cond (isAggD d) (match x with
      | .agg cs => match cellsOf P t with
        | some n => cond (Nat.beq cs.size n) (some (.agg cs)) none
        | none => none
      | _ => none) (cond (oneCell x) (some x) none)
  | _ => none

theorem aload_ok {P : Program} {N : Emb} {t : TypeId} {x x' v : Value} {h : AH} {w : World} (hl : aload P t x h = some v) (hx : VRel N x x') (hr : HRel P N h w) :
    ∃ v', (Instr.loadAt t x').run P w = .ok v' w ∧ VRel N v v' := by
  unfold aload at hl
  split at hl
  · rename_i a
    obtain ⟨e, he, rfl⟩ := hx.addr
    split at hl
    · cases hl
    · rename_i d hu
      split at hl
      · rename_i c bt fr hb
        obtain ⟨c', fr', hw, hz, hd, _, _, hrow, _⟩ := hr.row hb he
        cases hsp : a.spot with
        | some s => rw [hsp] at hl; cases hl
        | none =>
          rw [hsp] at hl
          simp only [Option.isNone_none, cond_true] at hl
          cases hda : isAggD d with
          | true =>
            rw [hda] at hl
            simp only [cond_true] at hl
            split at hl
            · rename_i n hn
              cases hble : Nat.ble (a.off + n) c.size with
              | false => rw [hble] at hl; cases hl
              | true =>
                rw [hble] at hl
                cases hl
                have hle := Nat.le_of_ble_eq_true hble
                have hcr := RowRel.dropTake (N := N) (d := e.d) (c := c) (c' := c') hrow hle (by omega)
                refine ⟨.agg ⟨(c'.toList.drop (e.d + a.off)).take n⟩, ?_, .agg _ _ hcr.1 hcr.2⟩
                simp [Instr.loadAt, Instr.sureAddr, loadVar, run_isAgg hu, hda, run_sizeOf hn, run_loadRow hw (e.d + a.off) n (by omega)]
            · cases hl
          | false =>
            rw [hda] at hl
            simp only [cond_false] at hl
            obtain ⟨v', h1, h2⟩ := hrow _ _ hl
            exact ⟨v', by simp [Instr.loadAt, Instr.sureAddr, loadVar, run_isAgg hu, hda, cell_eq hw, h1], h2⟩
      · cases hl
  · rename_i x0 ys
    obtain ⟨x1, b, o, cs', hxe, hF, hb, hcx, rfl, hfp⟩ := hx.inv_fp
    cases hxe
    clear hfp hx
    obtain ⟨⟨bt, fr, hw⟩, _⟩ := hr.froz b cs' hF
    split at hl
    · cases hl
    · rename_i d hu
      cases hda : isAggD d with
      | true =>
        rw [hda] at hl
        simp only [cond_true] at hl
        split at hl
        · rename_i cs
          split at hl
          · rename_i n hn
            cases hbe : Nat.beq cs.size n with
            | false => rw [hbe] at hl; cases hl
            | true =>
              rw [hbe] at hl
              cases hl
              have hne := Nat.eq_of_beq_eq_true hbe
              have hb' : o + cs.size ≤ cs'.size := hb
              refine ⟨.agg ⟨(cs'.toList.drop o).take n⟩, ?_, .agg _ _ ?_ ?_⟩
              · simp [Instr.loadAt, Instr.sureAddr, loadVar, run_isAgg hu, hda, run_sizeOf hn, run_loadRow hw o n (by omega)]
              · simp; omega
              · intro i v v' h1 h2
                refine (hcx i v v' h1 ?_).undrop
                simp only [List.getElem?_toArray, List.getElem?_take, List.getElem?_drop] at h2
                split at h2
                · simpa using h2
                · cases h2
          · cases hl
        · cases hl
      | false =>
        rw [hda] at hl
        simp only [cond_false] at hl
        cases ho : oneCell x0 with
        | false => rw [ho] at hl; cases hl
        | true =>
          rw [ho] at hl
          cases hl
          have hc1 := cells_one ho
          rw [hc1] at hb
          simp at hb
          have hlt : o < cs'.size := by omega
          refine ⟨cs'[o], by simp [Instr.loadAt, Instr.sureAddr, loadVar, run_isAgg hu, hda, cell_eq hw, hlt], ?_⟩
          exact (hcx 0 _ _ (by rw [hc1]; rfl) (by simp [hlt])).undrop
  · cases hl

theorem putAll_size : ∀ (vs : List Value) (c : Array Value) (off : Nat), (putAll c off vs).size = c.size
  | [], _, _ => rfl
  | v :: vs, c, off => by simp [putAll, putAll_size vs]

theorem RowRel.set {N : Emb} {d : Nat} {c c' : Array Value} (h : RowRel N d c c') (hc : d + c.size ≤ c'.size) (i : Nat) {v v' : Value} (hv : VRel N v v') :
    RowRel N d (c.setIfInBounds i v) (c'.setIfInBounds (d + i) v') := by
  intro j u hu
  by_cases hij : i = j
  · subst hij
    have hi : i < c.size := by
      rcases Nat.lt_or_ge i c.size with x | x
      · exact x
      · rw [Array.getElem?_eq_none (by simp; omega)] at hu; cases hu
    rw [Array.getElem?_setIfInBounds_self_of_lt hi] at hu
    cases hu
    exact ⟨v', Array.getElem?_setIfInBounds_self_of_lt (by omega), hv⟩
  · rw [Array.getElem?_setIfInBounds_ne hij] at hu
    obtain ⟨u', h1, h2⟩ := h j u hu
    exact ⟨u', by rw [Array.getElem?_setIfInBounds_ne (by omega)]; exact h1, h2⟩

theorem RowRel.putAll {N : Emb} {d : Nat} : ∀ (vs vs' : List Value) (c c' : Array Value) (off : Nat), vs.length = vs'.length → (∀ (i : Nat) v v', vs[i]? = some v → vs'[i]? = some v' → VRel N v v') →
    d + c.size ≤ c'.size → RowRel N d c c' → RowRel N d (putAll c off vs) (Ev.putAll c' (d + off) vs')
  | [], [], _, _, _, _, _, _, h => h
  | v :: vs, v' :: vs', c, c', off, hl, hr, hc, h =>
    RowRel.putAll vs vs' _ _ (off + 1) (by simpa using hl) (fun i a b x y => hr (i + 1) a b (by simpa using x) (by simpa using y)) (by simpa using hc) (h.set hc off (hr 0 v v' rfl rfl))

theorem setCell_row {w : World} {r off : Nat} {c : Array Value} {t : TypeId} {fr : Nat × Nat} (h : w.heap[r]? = some (.cells c t fr)) (v : Value) :
    (w.setCell ⟨r, off, none⟩ v).heap[r]? = some (.cells (c.setIfInBounds off v) t fr) := by
  simp [World.setCell, Array.getElem?_modify, h]

theorem setCell_other {w : World} {r off j : Nat} (h : j ≠ r) (v : Value) : (w.setCell ⟨r, off, none⟩ v).heap[j]? = w.heap[j]? := by
  simp only [World.setCell, Array.getElem?_modify]
  rw [if_neg (fun e => h e.symm)]

theorem run_storeRow {P : Program} {r : Nat} {t : TypeId} {fr : Nat × Nat} : ∀ (vs : List Value) (c : Array Value) (off i : Nat) (w : World), w.heap[r]? = some (.cells c t fr) →
    off + i + vs.length ≤ c.size → (∀ j, off + i ≤ j → j < off + i + vs.length → ¬ (fr.1 ≤ j ∧ j < fr.2)) → (∀ v ∈ vs, v.oneCell' = true) →
    ∃ w', (storeCells ⟨r, off, none⟩ vs i).run P w = .ok () w' ∧ w'.heap.size = w.heap.size ∧ w'.heap[r]? = some (.cells (putAll c (off + i) vs) t fr) ∧ (∀ j, j ≠ r → w'.heap[j]? = w.heap[j]?) ∧
      w'.tape = w.tape ∧ w'.os = w.os ∧ w'.output = w.output
  | [], c, off, i, w, hw, _, _, _ => ⟨w, by simp [storeCells], rfl, hw, fun _ _ => rfl, rfl, rfl, rfl⟩
  | v :: vs, c, off, i, w, hw, hn, hf, ho => by
    simp only [List.length_cons] at hn hf
    have hcell : w.cell? ⟨r, off + i, none⟩ = some (c[off + i]'(by omega)) := by
      rw [cell_eq hw, Array.getElem?_eq_getElem (by omega)]
    have hfz : w.frozen? ⟨r, off + i, none⟩ = false := by
      rw [frozen_eq hw]
      have := hf (off + i) (Nat.le_refl _) (by omega)
      simp only [Bool.and_eq_false_iff, decide_eq_false_iff_not]
      omega
    have hs : (store ⟨r, off + i, none⟩ v).run P w = .ok () (w.setCell ⟨r, off + i, none⟩ v) := by
      rw [run_store P w _ v _ (ho v (by simp)), hcell]
      simp [hfz]
    obtain ⟨w', h1, h2, h3, h4, h5, h6, h7⟩ := run_storeRow (P := P) vs (c.setIfInBounds (off + i) v) off (i + 1) (w.setCell ⟨r, off + i, none⟩ v) (setCell_row hw v)
      (by simp; omega) (fun j a b => hf j (by omega) (by omega)) (fun u hu => ho u (by simp [hu]))
    refine ⟨w', ?_, by rw [h2]; simp, h3, fun j hj => by rw [h4 j hj, setCell_other hj], by rw [h5]; rfl, by rw [h6]; rfl, by rw [h7]; rfl⟩
    simp only [storeCells, add_none, Sem.run_bind, hs, Result.andThen_ok]
    exact h1

def storeA (h : AH) (a : Addr) (vs : List Value) : Option AH :=
  match vs with
  | [] => some h
  | _ => match h.get a.block with
    | some (.cells c t fr) =>
      cond (a.spot.isNone && Nat.ble (a.off + vs.length) c.size && (Nat.beq fr.1 fr.2 || Nat.ble (a.off + vs.length) fr.1 || Nat.ble fr.2 a.off) && vs.all oneCell)
        (some (h.set a.block (.cells (putAll c a.off vs) t fr))) none
    | _ => none

theorem oneCell_rel {N : Emb} {v v' : Value} (h : VRel N v v') (ho : oneCell v = true) : v'.oneCell' = true := by
  cases h <;> first | rfl | (simp [oneCell] at ho; done) | (exact absurd ho (by simp [oneCell, anyV]))

theorem storeA_ok {P : Program} {N : Emb} {a : Addr} {e : Ent} {vs vs' : List Value} {h h' : AH} {w : World} (hs : storeA h a vs = some h') (he : N a.block = some e) (hl : vs.length = vs'.length)
    (hv : ∀ (i : Nat) v v', vs[i]? = some v → vs'[i]? = some v' → VRel N v v') (hr : HRel P N h w) :
    ∃ w', (storeCells ⟨e.r, e.d + a.off, a.spot⟩ vs').run P w = .ok () w' ∧ Ext P N h w N h' w' := by
  unfold storeA at hs
  split at hs
  · cases hs
    have : vs' = [] := by cases vs' with | nil => rfl | cons _ _ => simp at hl
    subst this
    exact ⟨w, by simp [storeCells], Ext.refl hr⟩
  · split at hs
    · rename_i c t fr hb
      cases hc : (a.spot.isNone && Nat.ble (a.off + vs.length) c.size && (Nat.beq fr.1 fr.2 || Nat.ble (a.off + vs.length) fr.1 || Nat.ble fr.2 a.off) && vs.all oneCell) with
      | false => rw [hc] at hs; cases hs
      | true =>
        rw [hc] at hs
        cases hs
        simp only [Bool.and_eq_true, Bool.or_eq_true, List.all_eq_true] at hc
        obtain ⟨⟨⟨hsp, hle⟩, hfr⟩, hone⟩ := hc
        have hsp' : a.spot = none := by simpa using hsp
        have hle' := Nat.le_of_ble_eq_true hle
        obtain ⟨c', fr', hw, hz, hd, hs1, hs2, hrow, hf1, hf2, hf3⟩ := hr.row hb he
        have hfree : ∀ j, e.d + a.off + 0 ≤ j → j < e.d + a.off + 0 + vs'.length → ¬ (fr'.1 ≤ j ∧ j < fr'.2) := by
          intro j h1 h2 h3
          rw [← hl] at h2
          have hi : j - e.d < c.size := by omega
          have hj : e.d + (j - e.d) = j := by omega
          have := hf2 (j - e.d) hi (by omega) (by omega)
          rcases hfr with (hq | hq) | hq
          · have := Nat.eq_of_beq_eq_true hq; omega
          · have := Nat.le_of_ble_eq_true hq; omega
          · have := Nat.le_of_ble_eq_true hq; omega
        have hone' : ∀ v ∈ vs', v.oneCell' = true := by
          intro v hv'
          obtain ⟨i, hi⟩ := List.getElem?_of_mem hv'
          have hlt : i < vs.length := by
            rw [hl]
            exact (List.getElem?_eq_some_iff.1 hi).1
          have := hv i _ v (List.getElem?_eq_getElem hlt) hi
          exact oneCell_rel this (hone _ (List.getElem_mem hlt))
        obtain ⟨w', h1, h2, h3, h4, h5, h6, h7⟩ := run_storeRow (P := P) vs' c' (e.d + a.off) 0 w hw (by omega) hfree hone'
        refine ⟨w', by rw [hsp']; exact h1, ?_⟩
        refine ext_set hr hb he (o' := .cells (putAll c' (e.d + a.off) vs') t fr') ?_ h2 h3 h4 h5 h6 h7
        refine ⟨_, fr', rfl, by rw [putAll_size]; exact hz, by rw [putAll_size]; exact hd, hs1, hs2, ?_, ?_⟩
        · exact RowRel.putAll vs vs' c c' a.off hl hv (by omega) hrow
        · rw [putAll_size]; exact ⟨hf1, hf2, hf3⟩
    · cases hs

def astore (P : Program) (t : TypeId) (x v : Value) (h : AH) : Option AH :=
  match x with
  | .pointer (some a) => match cellsOf P t with
    | some n => cond (Nat.beq v.cells.size n && notAny v) (storeA h a v.cells.toList) none
    | none => none
  | _ => none

theorem astore_ok {P : Program} {N : Emb} {t : TypeId} {x x' v v' : Value} {h h' : AH} {w : World} (hs : astore P t x v h = some h') (hx : VRel N x x') (hv : VRel N v v') (hr : HRel P N h w) :
    ∃ w', (Instr.storeAt t x' v').run P w = .ok () w' ∧ Ext P N h w N h' w' := by
  unfold astore at hs
  split at hs
  · rename_i a
    obtain ⟨e, he, rfl⟩ := hx.addr
    split at hs
    · rename_i n hn
      cases hb : (Nat.beq v.cells.size n && notAny v) with
      | false => rw [hb] at hs; cases hs
      | true =>
        rw [hb] at hs
        simp only [cond_true] at hs
        simp only [Bool.and_eq_true] at hb
        have hsz := Nat.eq_of_beq_eq_true hb.1
        have hc := hv.cells hb.2
        obtain ⟨w', h1, h2⟩ := storeA_ok hs he hc.toList.1 hc.toList.2 hr
        refine ⟨w', ?_, h2⟩
        simp only [Instr.storeAt, Instr.sureAddr, storeVar, Sem.run_bind, Sem.run_pure, Result.andThen_ok, run_sizeOf hn]
        rw [if_neg (by rw [← hc.1, hsz]; simp)]
        simpa using h1
    · cases hs
  · cases hs

/-- A new row, whole. -/
theorem orel_new {P : Program} {N : Emb} {r : Nat} {c c' : Array Value} (t : TypeId) (h : CRel N c c') : ORel P N ⟨r, 0, width P t, c'.size⟩ (.cells c t) (.cells c' t) := by
  refine ⟨c', (0, 0), rfl, rfl, by simp [h.1], rfl, by simp, ?_, ?_⟩
  · intro i v hv
    obtain ⟨v', h1, h2⟩ := h.get hv
    exact ⟨v', by simpa using h1, h2⟩
  · exact ⟨fun _ => rfl, fun i _ _ h2 => absurd h2 (by simp), fun j _ _ h2 => absurd h2.2 (by simp)⟩

theorem ext_new {P : Program} {N : Emb} {h : AH} {w : World} (hr : HRel P N h w) (hf : N h.next = none) {c c' : Array Value} (t : TypeId) (hc : CRel N c c') :
    Ext P N h w (N.add h.next ⟨w.heap.size, 0, width P t, c'.size⟩) (h.push (.cells c t)) { w with heap := w.heap.push (.cells c' t) } :=
  ext_push hr hf _ _ _ _ (orel_new t (hc.mono (Emb.le_add hf _))) rfl rfl rfl rfl

theorem vrel_new (N : Emb) (i : Nat) (e : Ent) (he : e.d = 0) : VRel (N.add i e) (.pointer (some ⟨i, 0, none⟩)) (.pointer (some ⟨e.r, 0, none⟩)) := by
  have := VRel.ptr i 0 none e (Emb.add_self N i e)
  rw [he] at this
  exact this

theorem fresh_push {N : Emb} {h : AH} {o : Obj} (hf : Fresh N h (h.push o)) : N h.next = none := hf h.next (Nat.le_refl _) (by simp [AH.push])

end Go.Ev

/-
  The abstract evaluator: new slices, slices of slices, conversions, iterators (EvH).
-/
namespace Go.Ev

/-- The zero cells of 'n' cells. -/
def zlist (z : Array Value) (n : Nat) : List Value := (List.range n).map fun i => (z[i % z.size]?).getD undef

theorem zlist_eq (z : Array Value) (n : Nat) (h : n = 0 ∨ 0 < z.size) : (Array.range n).map (fun i => z[i % z.size]!) = ⟨zlist z n⟩ := by
  apply Array.ext'
  simp only [Array.toList_map, Array.toList_range, zlist]
  rcases h with h | h
  · subst h; rfl
  · apply List.map_congr_left
    intro i _
    have hi : i % z.size < z.size := Nat.mod_lt _ h
    rw [getElem!_pos z (i % z.size) hi, Array.getElem?_eq_getElem hi]
    rfl

theorem zlist_rel (N : Emb) {z : Array Value} (hz : CRel N z z) (n : Nat) (h : n = 0 ∨ 0 < z.size) : CRel N ⟨zlist z n⟩ ⟨zlist z n⟩ := by
  refine ⟨rfl, fun i v v' a b => ?_⟩
  rw [a] at b
  cases b
  rcases h with h | h
  · subst h; simp [zlist] at a
  · simp only [zlist, List.getElem?_toArray, List.getElem?_map, Option.map_eq_some_iff] at a
    obtain ⟨j, _, rfl⟩ := a
    have hj : j % z.size < z.size := Nat.mod_lt _ h
    have hg := Array.getElem?_eq_getElem hj
    rw [hg]
    exact hz.2 _ _ _ hg hg

/-- A pointer to the new block. -/
def newPtr (h : AH) : Value := .pointer (some ⟨h.next, 0, none⟩)

theorem vrel_newSlice (N : Emb) (i n c c' : Nat) (e : Ent) (he : e.d = 0) (hc : c ≤ c') (hz : c' = c ∨ (0 + c' * e.s ≤ e.z ∧ 0 % e.s = 0)) :
    VRel (N.add i e) (.slice (some ⟨i, 0, none⟩) n c) (.slice (some ⟨e.r, 0, none⟩) n c') :=
  .slice i 0 n c e 0 c' (Emb.add_self N i e) hc hz (.inr (by rw [he]))

def aalloc (P : Program) (t : TypeId) (h : AH) : Option (Value × AH) :=
  match zeroFlat P t with
  | some z => some (newPtr h, h.push (.cells z.cells t))
  | none => none

theorem aalloc_ok {P : Program} {N : Emb} {t : TypeId} {v : Value} {h h' : AH} {w : World} (ha : aalloc P t h = some (v, h')) (hr : HRel P N h w) (hf : Fresh N h h') :
    ∃ v' w' N', (Instr.alloc t true (.tuple #[])).run P w = .ok v' w' ∧ VRel N' v v' ∧ Ext P N h w N' h' w' := by
  unfold aalloc at ha
  cases hz : zeroFlat P t with
  | none => rw [hz] at ha; cases ha
  | some z =>
    rw [hz] at ha
    cases ha
    obtain ⟨zf, zr⟩ := zeroFlat_ok hz
    have hc := (flat2_refl N zf).cells (flat2_notAny zf)
    refine ⟨.pointer (some ⟨w.heap.size, 0, none⟩), _, _, ?_, ?_, ext_new hr (fresh_push hf) t hc⟩
    · simp [Instr.alloc, zr, newVar, newRow]
    · exact vrel_new N _ _ rfl

def abox (t : TypeId) (x : Value) (h : AH) : Value × AH := (newPtr h, h.push (.cells x.cells t))

theorem abox_ok {P : Program} {N : Emb} {t : TypeId} {x x' : Value} {h : AH} {w : World} (hx : VRel N x x') (hn : notAny x = true) (hr : HRel P N h w) (hf : Fresh N h (abox t x h).2) :
    ∃ v' w' N', (Instr.box t x').run P w = .ok v' w' ∧ VRel N' (abox t x h).1 v' ∧ Ext P N h w N' (abox t x h).2 w' := by
  refine ⟨.pointer (some ⟨w.heap.size, 0, none⟩), _, _, ?_, ?_, ext_new hr (fresh_push hf) t (hx.cells hn)⟩
  · simp [Instr.box, newVar, newRow]
  · exact vrel_new N _ _ rfl

def abuildSlice (P : Program) (t : TypeId) (len : Nat) (parts : List (Nat × Value)) (h : AH) : Option (Value × AH) :=
  match P.underlying t with
  | some (.slice elem) => match cellsOf P elem with
    | none => none
    | some s => match zeroFlat P elem with
      | none => none
      | some z => cond (Nat.ble (len * s) 16777216 && (Nat.beq (len * s) 0 || Nat.blt 0 z.cells.size))
          (match fillA (fun i => some (i * s, s)) ⟨zlist z.cells (len * s)⟩ parts with
          | some c => some (.slice (some ⟨h.next, 0, none⟩) len len, h.push (.cells c elem))
          | none => none) none
  | _ => none

theorem abuildSlice_ok {P : Program} {N : Emb} {ρ ρ' : Operand → Value} {t : TypeId} {len : Nat} {ps : Array (Nat × Operand)} {v : Value} {h h' : AH} {w : World} (hp : ∀ p ∈ ps.toList, VRel N (ρ p.2) (ρ' p.2))
    (ha : abuildSlice P t len (ps.toList.map fun p => (p.1, ρ p.2)) h = some (v, h')) (hr : HRel P N h w) (hf : Fresh N h h') :
    ∃ v' w' N', (Instr.buildSlice t len (ps.map fun p => (p.1, ρ' p.2))).run P w = .ok v' w' ∧ VRel N' v v' ∧ Ext P N h w N' h' w' := by
  unfold abuildSlice at ha
  split at ha
  · rename_i elem hu
    split at ha
    · cases ha
    · rename_i s hs
      split at ha
      · cases ha
      · rename_i z hz
        obtain ⟨zf, zr⟩ := zeroFlat_ok hz
        have hzc := (flat2_refl N zf).cells (flat2_notAny zf)
        cases hb : (Nat.ble (len * s) 16777216 && (Nat.beq (len * s) 0 || Nat.blt 0 z.cells.size)) with
        | false => rw [hb] at ha; cases ha
        | true =>
          rw [hb] at ha
          simp only [cond_true] at ha
          simp only [Bool.and_eq_true, Bool.or_eq_true] at hb
          have h1 := Nat.le_of_ble_eq_true hb.1
          have h2 : len * s = 0 ∨ 0 < z.cells.size := by
            rcases hb.2 with q | q
            · exact .inl (Nat.eq_of_beq_eq_true q)
            · exact .inr (Nat.le_of_ble_eq_true q)
          split at ha
          · rename_i c hc
            cases ha
            obtain ⟨c', hc', hrel⟩ := fillA_ok (N := N) (fun i => some (i * s, s)) ps.toList _ _ _ hp (zlist_rel N hzc _ h2) hc
            refine ⟨.slice (some ⟨w.heap.size, 0, none⟩) len len, _, _, ?_, ?_, ext_new hr (fresh_push hf) elem hrel⟩
            · have h3 : ¬ (16777216 < len * s) := by omega
              have e0 : (Array.range (len * s)).map (fun x => (if len * s = 0 then (#[] : Array Value) else z.cells)[x % (if len * s = 0 then (#[] : Array Value) else z.cells).size]!) = ⟨zlist z.cells (len * s)⟩ := by
                by_cases h0 : len * s = 0
                · simp [h0, zlist]
                · rw [if_neg h0]; exact zlist_eq _ _ h2
              by_cases h0 : len * s = 0
              · have hc0 : Instr.fill (fun i => some (i * s, s)) #[] (ps.toList.map fun p => (p.1, ρ' p.2)) = some c' := by rw [h0] at hc'; exact hc'
                have er : Array.range 0 = #[] := rfl
                simp [Instr.buildSlice, run_underlying hu, run_sizeOf hs, h0, hc0, newRow, er]
              · rw [if_neg h0] at e0
                simp only [Instr.buildSlice, Sem.run_bind, run_underlying hu, Result.andThen_ok, run_sizeOf hs, Nat.reducePow, gt_iff_lt, h3, if_false, Sem.run_pure, h0, zr]
                simp only [e0, Array.toList_map, hc']
                simp [newRow]
            · exact vrel_newSlice N _ _ _ _ _ rfl (Nat.le_refl _) (.inl rfl)
          · cases ha
  · cases ha

def amakeSlice (P : Program) (t : TypeId) (l c : Value) (h : AH) : Option (Value × AH) :=
  match P.underlying t, l, c with
  | some (.slice elem), .int _ l, .int _ c => match P.info? elem with
    | none => none
    | some i => match zeroFlat P elem with
      | none => none
      | some z => cond (decide (0 ≤ l) && decide (l ≤ c) && decide (c ≤ 9223372036854775807) && Nat.ble (c.toNat * i.bytes) 140737488355328 && (Nat.beq (c.toNat * i.size) 0 || Nat.blt 0 z.cells.size))
          (some (.slice (some ⟨h.next, 0, none⟩) l.toNat c.toNat, h.push (.cells ⟨zlist z.cells (c.toNat * i.size)⟩ elem))) none
  | _, _, _ => none

theorem amakeSlice_ok {P : Program} {N : Emb} {t : TypeId} {l c l' c' : Value} {v : Value} {h h' : AH} {w : World} (ha : amakeSlice P t l c h = some (v, h')) (hl : VRel N l l') (hc : VRel N c c')
    (hr : HRel P N h w) (hf : Fresh N h h') :
    ∃ v' w' N', (Instr.makeSlice t l' c').run P w = .ok v' w' ∧ VRel N' v v' ∧ Ext P N h w N' h' w' := by
  unfold amakeSlice at ha
  split at ha
  · rename_i elem kl l kc c hu
    obtain rfl := hl.inv_int
    obtain rfl := hc.inv_int
    split at ha
    · cases ha
    · rename_i i hi
      split at ha
      · cases ha
      · rename_i z hz
        obtain ⟨zf, zr⟩ := zeroFlat_ok hz
        have hzc := (flat2_refl N zf).cells (flat2_notAny zf)
        cases hb : (decide (0 ≤ l) && decide (l ≤ c) && decide (c ≤ 9223372036854775807) && Nat.ble (c.toNat * i.bytes) 140737488355328 && (Nat.beq (c.toNat * i.size) 0 || Nat.blt 0 z.cells.size)) with
        | false => rw [hb] at ha; cases ha
        | true =>
          rw [hb] at ha
          cases ha
          simp only [Bool.and_eq_true, Bool.or_eq_true, decide_eq_true_eq] at hb
          obtain ⟨⟨⟨⟨h0, hlc⟩, hmax⟩, hby⟩, hzz⟩ := hb
          have hby := Nat.le_of_ble_eq_true hby
          have h2 : c.toNat * i.size = 0 ∨ 0 < z.cells.size := by
            rcases hzz with q | q
            · exact .inl (Nat.eq_of_beq_eq_true q)
            · exact .inr (Nat.le_of_ble_eq_true q)
          have wl : IntKind.i64.wrap l = l := IntWalk.i64_in l (by omega)
          have wc : IntKind.i64.wrap c = c := IntWalk.i64_in c (by omega)
          have hbc : ((i.bytes : Int) * c) ≤ 140737488355328 := by
            have h9 : ((c.toNat * i.bytes : Nat) : Int) ≤ ((140737488355328 : Nat) : Int) := Int.ofNat_le.2 hby
            rw [Int.natCast_mul, Int.toNat_of_nonneg (by omega), Int.mul_comm] at h9
            omega
          refine ⟨.slice (some ⟨w.heap.size, 0, none⟩) l.toNat c.toNat, _, _, ?_, ?_, ext_new hr (fresh_push hf) elem (zlist_rel N hzc _ h2)⟩
          · have e0 := zlist_eq z.cells (c.toNat * i.size) h2
            have n1 : ¬ c < 0 := by omega
            have n2 : ¬ (281474976710656 : Int) < (i.bytes : Int) * c := by omega
            have n3 : ¬ l < 0 := by omega
            have n4 : ¬ c < l := by omega
            by_cases hn : c.toNat * i.size = 0
            · have e1 : (⟨zlist z.cells (c.toNat * i.size)⟩ : Array Value) = #[] := by rw [hn]; rfl
              rw [e1]
              have er : Array.range 0 = #[] := rfl
              simp [Instr.makeSlice, run_underlying hu, asInt, asIntOf, typeInfo, hi, wl, wc, n1, n2, n3, n4, sizeOf, hn, newRow, er]
            · simp only [Instr.makeSlice, Sem.run_bind, run_underlying hu, Result.andThen_ok, asInt, asIntOf, Sem.run_pure, typeInfo, run_program, hi, wl, wc, sizeOf]
              simp [n1, n2, n3, n4, hn, zr, e0, newRow, hi]
          · exact vrel_newSlice N _ _ _ _ _ rfl (Nat.le_refl _) (.inl rfl)
  · cases ha


/-- A bound of a slice expression. -/
def abound (x : Option Value) (dflt most : Nat) : Option Nat :=
  match x with
  | none => some dflt
  | some (.int _ i) => cond (decide (0 ≤ i) && decide (i ≤ most)) (some i.toNat) none
  | some _ => none

def aslice (P : Program) (t : TypeId) (x : Value) (lo hi : Option Value) (h : AH) : Option Value :=
  match P.underlying t, x with
  | some (.slice elem), .slice a len cap => match cellsOf P elem, abound hi len cap with
    | some s, some hh => match abound lo 0 hh with
      | none => none
      | some l => cond (Nat.ble hh cap) (match a with
        | none => some (.slice none (hh - l) (cap - l))
        | some ad => match h.get ad.block with
          | some (.cells _ bt _) => cond (ad.spot.isNone && Nat.beq (width P bt) s) (some (.slice (some (cond (Nat.beq l cap) ad (ad.add (l * s)))) (hh - l) (cap - l))) none
          | _ => none) none
    | _, _ => none
  | some (.slice elem), .func (.yield 0) xs _ => match cellsOf P elem, abound hi xs.size xs.size with
    | some s, some hh => match abound lo 0 hh with
      | none => none
      | some l => cond (Nat.beq (hh - l) 0 || (match xs[l]? with
        | some x => Nat.beq x.cells.size s
        | none => false)) (some (fz ⟨(xs.toList.drop l).take (hh - l)⟩)) none
    | _, _ => none
  | some (.array m elem), .pointer (some ad) => match cellsOf P elem, abound hi m m with
    | some s, some hh => match abound lo 0 hh with
      | none => none
      | some l => cond (Nat.ble hh m && ad.spot.isNone) (some (.slice (some (cond (Nat.beq l m) ad (ad.add (l * s)))) (hh - l) (m - l))) none
    | _, _ => none
  | _, _ => none

theorem abound_le {x : Option Value} {d m n : Nat} (h : abound x d m = some n) (hd : d ≤ m) : n ≤ m := by
  unfold abound at h
  split at h
  · cases h; exact hd
  · rename_i k i
    cases hb : (decide (0 ≤ i) && decide (i ≤ (m : Int))) with
    | false => rw [hb] at h; cases h
    | true => rw [hb] at h; cases h; simp at hb; omega
  · cases h

/-- An operand that may be left out. -/
def OptRel (N : Emb) : Option Value → Option Value → Prop
  | none, none => True
  | some v, some v' => VRel N v v'
  | _, _ => False

theorem abound_ok {P : Program} {N : Emb} {x x' : Option Value} {d m n : Nat} (h : abound x d m = some n) (hx : OptRel N x x') (m' : Nat) (hm : m ≤ m') (code : BoundsCode) (w : World) :
    (x' = none ∧ n = d) ∨ ∃ v', x' = some v' ∧ (Instr.sliceBound v' m' code).run P w = .ok n w := by
  unfold abound at h
  split at h
  · cases h
    cases x' with
    | none => exact .inl ⟨rfl, rfl⟩
    | some _ => exact hx.elim
  · rename_i k i
    cases x' with
    | none => exact hx.elim
    | some v' =>
      have e := VRel.inv_int hx
      cases hb : (decide (0 ≤ i) && decide (i ≤ (m : Int))) with
      | false => rw [hb] at h; cases h
      | true =>
        rw [hb] at h
        cases h
        simp only [Bool.and_eq_true, decide_eq_true_eq] at hb
        have h2 : i ≤ (m' : Int) := by omega
        exact .inr ⟨v', rfl, by rw [e]; simp [Instr.sliceBound, asIntOf, hb.1, h2]⟩
  · cases h

theorem run_sliceBounds {P : Program} {N : Emb} {lo hi lo' hi' : Option Value} {len cap cap' hh l : Nat} (h1 : abound hi len cap = some hh) (h2 : abound lo 0 hh = some l) (hlo : OptRel N lo lo') (hhi : OptRel N hi hi')
    (hc : cap ≤ cap') (w : World) : (Instr.sliceBounds true len cap' lo' hi' none).run P w = .ok (l, hh, cap') w := by
  have a := abound_ok (P := P) h1 hhi cap' hc .sliceAcap w
  have b := abound_ok (P := P) h2 hlo hh (Nat.le_refl _) .sliceB w
  rcases a with ⟨rfl, rfl⟩ | ⟨v, rfl, ra⟩ <;> rcases b with ⟨rfl, rfl⟩ | ⟨u, rfl, rb⟩ <;> simp_all [Instr.sliceBounds]

theorem run_sliceBoundsA {P : Program} {N : Emb} {lo hi lo' hi' : Option Value} {m hh l : Nat} (h1 : abound hi m m = some hh) (h2 : abound lo 0 hh = some l) (hlo : OptRel N lo lo') (hhi : OptRel N hi hi')
    (w : World) : (Instr.sliceBounds false m m lo' hi' none).run P w = .ok (l, hh, m) w := by
  have a := abound_ok (P := P) h1 hhi m (Nat.le_refl _) .sliceAlen w
  have b := abound_ok (P := P) h2 hlo hh (Nat.le_refl _) .sliceB w
  rcases a with ⟨rfl, rfl⟩ | ⟨v, rfl, ra⟩ <;> rcases b with ⟨rfl, rfl⟩ | ⟨u, rfl, rb⟩ <;> simp_all [Instr.sliceBounds]

theorem aslice_ok {P : Program} {N : Emb} {t : TypeId} {x x' v : Value} {lo hi lo' hi' : Option Value} {h : AH} {w : World} (ha : aslice P t x lo hi h = some v) (hx : VRel N x x') (hlo : OptRel N lo lo') (hhi : OptRel N hi hi')
    (hr : HRel P N h w) : ∃ v', (Instr.sliceAt t x' lo' hi' none).run P w = .ok v' w ∧ VRel N v v' := by
  unfold aslice at ha
  split at ha
  · rename_i elem a len cap hu
    split at ha
    · rename_i s hh hs hbh
      split at ha
      · cases ha
      · rename_i l hbl
        cases hle : Nat.ble hh cap with
        | false => rw [hle] at ha; cases ha
        | true =>
          rw [hle] at ha
          simp only [cond_true] at ha
          have hle := Nat.le_of_ble_eq_true hle
          have hlh := abound_le hbl (Nat.zero_le _)
          split at ha
          · cases ha
            obtain rfl := hx.inv_slice0
            refine ⟨_, ?_, .slice0 _ _⟩
            simp [Instr.sliceAt, run_underlying hu, Instr.slice, run_sliceBounds hbh hbl hlo hhi (Nat.le_refl _) w, run_sizeOf hs]
          · rename_i ad
            obtain ⟨e, o', c', hsp, he, hc, hz, ho, rfl⟩ := hx.inv_slice
            split at ha
            · rename_i cc bt fr hb
              obtain ⟨_, _, _, _, _, hs1, _⟩ := hr.row hb he
              cases hcond : (ad.spot.isNone && Nat.beq (width P bt) s) with
              | false => rw [hcond] at ha; cases ha
              | true =>
                rw [hcond] at ha
                cases ha
                simp only [Bool.and_eq_true] at hcond
                have hws : e.s = s := by rw [hs1]; exact Nat.eq_of_beq_eq_true hcond.2
                refine ⟨.slice (some (if c' = l then ⟨e.r, o', none⟩ else (⟨e.r, o', none⟩ : Addr).add (l * s))) (hh - l) (c' - l), ?_, ?_⟩
                · have hrun := run_sliceBounds (P := P) hbh hbl hlo hhi hc w
                  by_cases hcl : c' = l
                  · subst hcl; simp [Instr.sliceAt, run_underlying hu, Instr.slice, hrun, run_sizeOf hs]
                  · simp [Instr.sliceAt, run_underlying hu, Instr.slice, hrun, run_sizeOf hs, hcl]
                · obtain ⟨b, o, sp⟩ := ad
                  simp only at hsp he ho
                  subst hsp
                  simp only [add_none]
                  by_cases hlc : l = cap
                  · -- the abstract address stays
                    have hb1 : Nat.beq l cap = true := by rw [hlc]; exact Nat.beq_refl cap
                    rw [hb1]
                    simp only [cond_true]
                    have hn0 : hh - l = 0 := by omega
                    have hc0 : cap - l = 0 := by omega
                    rw [hn0, hc0]
                    by_cases hcl : c' = l
                    · rw [if_pos hcl]
                      refine .slice b o 0 0 e o' (c' - l) he (Nat.zero_le _) (.inl (by omega)) ?_
                      rcases ho with ⟨_, _, h3⟩ | h3
                      · exact .inl ⟨rfl, rfl, h3⟩
                      · exact .inr h3
                    · rw [if_neg hcl]
                      refine .slice b o 0 0 e (o' + l * s) (c' - l) he (Nat.zero_le _) (.inr ?_) (.inl ⟨rfl, rfl, ?_⟩)
                      · have hz := hz.resolve_left (by omega)
                        rw [← hws]
                        refine ⟨?_, ?_⟩
                        · have : l * e.s + (c' - l) * e.s = c' * e.s := by rw [← Nat.add_mul]; congr 1; omega
                          omega
                        · rw [Nat.add_mul_mod_self_right]; exact hz.2
                      · rcases ho with ⟨_, _, h3⟩ | h3 <;> omega
                  · have hb1 : Nat.beq l cap = false := beq_no hlc
                    rw [hb1]
                    simp only [cond_false]
                    have hcl : ¬ c' = l := by omega
                    rw [if_neg hcl]
                    have ho : o' = e.d + o := ho.resolve_left (by omega)
                    refine .slice b (o + l * s) (hh - l) (cap - l) e (o' + l * s) (c' - l) he (by omega) ?_ (.inr (by omega))
                    rcases hz with hz | hz
                    · exact .inl (by omega)
                    · refine .inr ⟨?_, ?_⟩
                      · rw [← hws]
                        have : l * e.s + (c' - l) * e.s = c' * e.s := by rw [← Nat.add_mul]; congr 1; omega
                        omega
                      · rw [← hws, Nat.add_mul_mod_self_right]; exact hz.2
            · cases ha
    · cases ha
  · rename_i elem xs ys hu
    split at ha
    · rename_i s hh hs hbh
      split at ha
      · cases ha
      · rename_i l hbl
        cases hcond : (Nat.beq (hh - l) 0 || (match xs[l]? with
          | some x => Nat.beq x.cells.size s
          | none => false)) with
        | false => rw [hcond] at ha; cases ha
        | true =>
          rw [hcond] at ha
          cases ha
          have hlh := abound_le hbl (Nat.zero_le _)
          have hhx := abound_le hbh (Nat.le_refl _)
          rcases hx.inv_fz with ⟨rfl, a, c, rfl⟩ | ⟨s', b, o, c, cs, hF, hbd, hc, hss, hcx, rfl⟩
          · have h0 : hh = 0 := by simpa using hhx
            subst h0
            have h0 : l = 0 := by omega
            subst h0
            have hrun := run_sliceBounds (P := P) (cap' := c) hbh hbl hlo hhi (Nat.zero_le _) w
            simp only [List.size_toArray, List.length_nil] at hrun
            refine ⟨.slice (match a with | none => none | some ad => some (if c = 0 then ad else ad.add (0 * s))) 0 (c - 0), ?_, ?_⟩
            · cases a with
              | none => simp [Instr.sliceAt, run_underlying hu, Instr.slice, hrun, run_sizeOf hs]
              | some ad =>
                by_cases hcl : c = 0
                · subst hcl; simp [Instr.sliceAt, run_underlying hu, Instr.slice, hrun, run_sizeOf hs]
                · simp [Instr.sliceAt, run_underlying hu, Instr.slice, hrun, run_sizeOf hs, hcl]
            · exact .fz0 _ _
          · have hrun := run_sliceBounds (P := P) (cap' := c) hbh hbl hlo hhi hc w
            refine ⟨.slice (some (if c = l then ⟨b, o, none⟩ else (⟨b, o, none⟩ : Addr).add (l * s))) (hh - l) (c - l), ?_, ?_⟩
            · by_cases hcl : c = l
              · subst hcl; simp [Instr.sliceAt, run_underlying hu, Instr.slice, hrun, run_sizeOf hs]
              · simp [Instr.sliceAt, run_underlying hu, Instr.slice, hrun, run_sizeOf hs, hcl]
            · rcases Nat.eq_zero_or_pos (hh - l) with h0 | h0
              · rw [h0]
                simp only [List.take_zero]
                exact .fz0 _ _
              · have hcl : ¬ c = l := by omega
                rw [if_neg hcl, addr_add]
                have hlx : l < xs.size := by omega
                have hse : s' = s := by
                  have hb0 : Nat.beq (hh - l) 0 = false := beq_no (by omega)
                  rw [hb0, Array.getElem?_eq_getElem hlx] at hcond
                  simp only [Bool.false_or] at hcond
                  have h1 := hss l xs[l] (Array.getElem?_eq_getElem hlx)
                  have h2 := Nat.eq_of_beq_eq_true hcond
                  omega
                subst hse
                have hlen : ((xs.toList.drop l).take (hh - l)).length = hh - l := by simp; omega
                have hget : ∀ (i : Nat) x, (⟨(xs.toList.drop l).take (hh - l)⟩ : Array Value)[i]? = some x → xs[l + i]? = some x := fun i x hi => by
                  simp only [List.getElem?_toArray, List.getElem?_take, List.getElem?_drop] at hi
                  split at hi
                  · simpa using hi
                  · cases hi
                have hfz := VRel.fz (N := N) ⟨(xs.toList.drop l).take (hh - l)⟩ s' b (o + l * s') (c - l) cs hF ?_ ?_ (fun i x hi => hss _ x (hget i x hi)) ?_
                · have e1 : (⟨(xs.toList.drop l).take (hh - l)⟩ : Array Value).size = hh - l := hlen
                  rw [e1] at hfz
                  exact hfz
                · show o + l * s' + ((xs.toList.drop l).take (hh - l)).length * s' ≤ _
                  rw [hlen]
                  have : (l + (hh - l)) * s' ≤ xs.size * s' := Nat.mul_le_mul_right _ (by omega)
                  rw [Nat.add_mul] at this
                  omega
                · show ((xs.toList.drop l).take (hh - l)).length ≤ _
                  rw [hlen]; omega
                · intro i j x v v' hi hj hv
                  refine hcx (l + i) j x v v' (hget i x hi) hj ?_
                  rw [Nat.add_mul, ← Nat.add_assoc]
                  exact hv
    · cases ha
  · rename_i m elem ad hu
    split at ha
    · rename_i s hh hs hbh
      split at ha
      · cases ha
      · rename_i l hbl
        cases hcond : (Nat.ble hh m && ad.spot.isNone) with
        | false => rw [hcond] at ha; cases ha
        | true =>
          rw [hcond] at ha
          cases ha
          simp only [Bool.and_eq_true] at hcond
          have hle := Nat.le_of_ble_eq_true hcond.1
          obtain ⟨b, o, sp⟩ := ad
          have hsp : sp = none := Option.isNone_iff_eq_none.1 hcond.2
          subst hsp
          have hrun := run_sliceBoundsA (P := P) hbh hbl hlo hhi w
          cases hx with
          | ptr b o sp e he =>
            refine ⟨.slice (some (if m = l then ⟨e.r, e.d + o, none⟩ else (⟨e.r, e.d + o, none⟩ : Addr).add (l * s))) (hh - l) (m - l), ?_, ?_⟩
            · by_cases hml : m = l
              · subst hml; simp [Instr.sliceAt, run_underlying hu, Instr.sureAddr, hrun, run_sizeOf hs]
              · simp [Instr.sliceAt, run_underlying hu, Instr.sureAddr, hrun, run_sizeOf hs, hml]
            · by_cases hml : m = l
              · subst hml
                rw [if_pos rfl, Nat.beq_refl]
                simp only [cond_true]
                exact .slice b o _ _ e _ _ he (Nat.le_refl _) (.inl rfl) (.inr rfl)
              · have hb1 : Nat.beq l m = false := beq_no fun q => hml q.symm
                rw [if_neg hml, hb1]
                simp only [cond_false, add_none]
                exact .slice b (o + l * s) _ _ e (e.d + o + l * s) _ he (Nat.le_refl _) (.inl rfl) (.inr (by omega))
    · cases ha
  · cases ha

/-- A part of a slice whose room is known: from its beginning on, the room stays known. -/
def asliceX (P : Program) (t : TypeId) (x : Value) (lo hi : Option Value) (h : AH) : Option Value :=
  match x with
  | .func (.yield 4) ⟨[.slice (some a) n c]⟩ _ => match lo with
    | none => match P.underlying t with
      | some (.slice elem) => match cellsOf P elem, abound hi n c with
        | some _, some hh => cond (Nat.ble hh c) (some (xsV a.block hh c)) none
        | _, _ => none
      | _ => none
    | some _ => aslice P t (.slice (some a) n c) lo hi h
  | _ => aslice P t x lo hi h
theorem asliceX_ok {P : Program} {N : Emb} {t : TypeId} {x x' v : Value} {lo hi lo' hi' : Option Value} {h : AH} {w : World} (ha : asliceX P t x lo hi h = some v) (hx : VRel N x x') (hlo : OptRel N lo lo') (hhi : OptRel N hi hi')
    (hr : HRel P N h w) : ∃ v', (Instr.sliceAt t x' lo' hi' none).run P w = .ok v' w ∧ VRel N v v' := by
  unfold asliceX at ha
  split at ha
  · rename_i a n c zs
    have hy := hx.inv_xs
    obtain ⟨b, n2, c2, e, h1, h2, e2⟩ := hy
    cases h1
    split at ha
    · split at ha
      · rename_i elem hu
        split at ha
        · rename_i s hh hs hbh
          cases hle : Nat.ble hh c with
          | false => rw [hle] at ha; cases ha
          | true =>
            rw [hle] at ha
            cases ha
            have hrun := run_sliceBounds (P := P) (lo := none) hbh (l := 0) rfl hlo hhi (Nat.le_refl c) w
            subst e2
            refine ⟨.slice (some ⟨e.r, e.d, none⟩) hh c, ?_, .xs b hh c e h2⟩
            by_cases hcl : c = 0
            · subst hcl; simp [Instr.sliceAt, run_underlying hu, Instr.slice, hrun, run_sizeOf hs]
            · simp [Instr.sliceAt, run_underlying hu, Instr.slice, hrun, run_sizeOf hs, Addr.add]
        · cases ha
      · cases ha
    · exact aslice_ok ha (VRel.of_xs (b := b) (n := n) (c := c) (by rw [e2]; exact .xs b n c e h2)) hlo hhi hr
  · exact aslice_ok ha hx hlo hhi hr

end Go.Ev

/-
  The abstract evaluator: conversions, iterators over strings, unsafe strings (EvI).
-/
namespace Go.Ev

/-- Cells that are bytes. -/
def bytesOf : List Value → Option (List UInt8)
  | [] => some []
  | .int .u8 n :: vs => cond (decide (0 ≤ n) && decide (n < 256)) (match bytesOf vs with
      | some l => some (UInt8.ofNat n.toNat :: l)
      | none => none) none
  | _ => none

theorem bytesOf_ok : ∀ {vs : List Value} {l : List UInt8}, bytesOf vs = some l → vs.length = l.length ∧ ∀ (i : Nat) x, l[i]? = some x → vs[i]? = some (.int .u8 x.toNat)
  | [], l, h => by simp [bytesOf] at h; subst h; simp
  | v :: vs, l, h => by
    unfold bytesOf at h
    split at h
    · cases ‹v :: vs = []›
    · rename_i n vs' e
      cases e
      cases hb : (decide (0 ≤ n) && decide (n < 256)) with
      | false => rw [hb] at h; cases h
      | true =>
        rw [hb] at h
        simp only [cond_true] at h
        split at h
        · rename_i l' hl'
          cases h
          obtain ⟨h1, h2⟩ := bytesOf_ok hl'
          simp only [Bool.and_eq_true, decide_eq_true_eq] at hb
          refine ⟨by simp [h1], fun i x hx => ?_⟩
          cases i with
          | zero =>
            simp at hx
            subst hx
            have : n.toNat < 256 := by omega
            simp
            omega
          | succ i => simpa using h2 i x (by simpa using hx)
        · cases h
    · cases h

/-- 'n' bytes from an address on. -/
def readBytes (h : AH) (a : Addr) (n : Nat) : Option (List UInt8) :=
  match h.get a.block with
  | some (.cells c _ _) => cond (a.spot.isNone && Nat.ble (a.off + n) c.size) (bytesOf ((c.toList.drop a.off).take n)) none
  | _ => none

theorem readBytes_ok {P : Program} {N : Emb} {h : AH} {w : World} {a : Addr} {n : Nat} {l : List UInt8} {e : Ent} (hb : readBytes h a n = some l) (hr : HRel P N h w) (he : N a.block = some e) :
    a.spot = none ∧ l.length = n ∧ ∀ (j : Nat) x, l[j]? = some x → w.cell? ((⟨e.r, e.d + a.off, none⟩ : Addr).add j) = some (.int .u8 x.toNat) := by
  unfold readBytes at hb
  split at hb
  · rename_i c t fr hg
    obtain ⟨c', fr', hw, hz, hd, _, _, hrow, _⟩ := hr.row hg he
    cases hc : (a.spot.isNone && Nat.ble (a.off + n) c.size) with
    | false => rw [hc] at hb; cases hb
    | true =>
      rw [hc] at hb
      simp only [cond_true] at hb
      simp only [Bool.and_eq_true] at hc
      have hle := Nat.le_of_ble_eq_true hc.2
      obtain ⟨h1, h2⟩ := bytesOf_ok hb
      refine ⟨by simpa using hc.1, by rw [← h1]; simp; omega, fun j x hx => ?_⟩
      have h3 := h2 j x hx
      simp only [List.getElem?_take, List.getElem?_drop] at h3
      split at h3
      · obtain ⟨v', h4, h5⟩ := hrow (a.off + j) _ (by simpa using h3)
        rw [add_none, cell_eq hw, Nat.add_assoc, h4, h5.inv_int]
      · cases h3
  · cases hb

/-- 'string(bytes)'. -/
def abytesToString (P : Program) (src dst : TypeId) (x : Value) (h : AH) : Option Value :=
  match P.underlying src, P.underlying dst, x with
  | some (.slice e), some .string, .slice (some a) n c => match P.underlying e with
    | some (.int .u8) => match readBytes h a n with
      | some l => cond (Nat.beq n 0 && Nat.beq c 0) none (some (.string ⟨⟨l⟩⟩))
      | none => none
    | _ => none
  | _, _, _ => none

theorem abytesToString_ok {P : Program} {N : Emb} {src dst : TypeId} {x x' v : Value} {h : AH} {w : World} (ha : abytesToString P src dst x h = some v) (hx : VRel N x x') (hr : HRel P N h w) :
    ∃ v', (convert src dst x').run P w = .ok v' w ∧ VRel N v v' := by
  unfold abytesToString at ha
  split at ha
  · rename_i e a n c hs hd
    obtain ⟨f, o', c', hsp, he, hc, hz, ho, rfl⟩ := hx.inv_slice
    split at ha
    · rename_i hu
      split at ha
      · rename_i l hl
        cases hnc : (Nat.beq n 0 && Nat.beq c 0) with
        | true => rw [hnc] at ha; cases ha
        | false =>
          rw [hnc] at ha
          cases ha
          have ho2 : o' = f.d + a.off := by
            rcases ho with ⟨h1, h2, _⟩ | h3
            · subst h1; subst h2; simp at hnc
            · exact h3
          obtain ⟨_, h2, h3⟩ := readBytes_ok hl hr he
          refine ⟨.string ⟨l.toArray⟩, ?_, .string _⟩
          subst h2
          exact run_convert_bytes_back w src dst e ⟨f.r, o', none⟩ c' l hs hu hd (fun j hj => by rw [ho2]; exact h3 j _ (List.getElem?_eq_getElem hj))
      · cases ha
    · cases ha
  · cases ha

/-- '[]byte(string)'. -/
def astringToBytes (P : Program) (src dst : TypeId) (x : Value) (h : AH) : Option (Value × AH) :=
  match P.underlying src, P.underlying dst, x with
  | some .string, some (.slice e), .string s => match P.underlying e with
    | some (.int .u8) => cond (Nat.beq (width P e) 1) (some (.slice (some ⟨h.next, 0, none⟩) s.size s.size, h.push (.cells ⟨s.data.toList.map fun b => .int .u8 b.toNat⟩ e (s.size, s.size + 1)))) none
    | _ => none
  | _, _, _ => none

theorem le_cut (w : World) (need old : Nat) (e : TypeId) : need ≤ grownCap w need old e := by
  simp [grownCap, Question.cut]

theorem astringToBytes_ok {P : Program} {N : Emb} {src dst : TypeId} {x x' v : Value} {h h' : AH} {w : World} (ha : astringToBytes P src dst x h = some (v, h')) (hx : VRel N x x') (hr : HRel P N h w) (hf : Fresh N h h') :
    ∃ v' w' N', (convert src dst x').run P w = .ok v' w' ∧ VRel N' v v' ∧ Ext P N h w N' h' w' := by
  unfold astringToBytes at ha
  split at ha
  · rename_i e s hs hd
    obtain rfl := hx.inv_string
    split at ha
    · rename_i hu
      cases hw1 : Nat.beq (width P e) 1 with
      | false => rw [hw1] at ha; cases ha
      | true =>
        rw [hw1] at ha
        cases ha
        have hw1 := Nat.eq_of_beq_eq_true hw1
        have hcap := le_cut w s.size 0 e
        generalize hg : grownCap w s.size 0 e = g at hcap
        have hrun := run_bytes_of_string (P := P) w src dst e s hs hd hu
        rw [hg] at hrun
        have hsz : (bytesRow s g).size = g := by simp [bytesRow]; omega
        refine ⟨.slice (some ⟨w.heap.size, 0, none⟩) s.size g, _, N.add h.next ⟨w.heap.size, 0, 1, g⟩, hrun, ?_, ?_⟩
        · exact vrel_newSlice N _ _ _ _ _ rfl hcap (.inr ⟨by simp, by simp⟩)
        · refine ext_push hr (fresh_push hf) _ (.cells (bytesRow s g) e ((bytesRow s g).size, (bytesRow s g).size + 1)) 1 g ?_ rfl rfl rfl rfl
          refine ⟨bytesRow s g, _, rfl, hsz, by simpa using hcap, hw1.symm, by simp, ?_, ?_⟩
          · intro i u hi
            simp only [List.getElem?_toArray, List.getElem?_map, Option.map_eq_some_iff] at hi
            obtain ⟨b, hb, rfl⟩ := hi
            refine ⟨.int .u8 b.toNat, ?_, .int _ _⟩
            have hlt : i < s.data.toList.length := (List.getElem?_eq_some_iff.1 hb).1
            simp only [bytesRow, Nat.zero_add]
            rw [Array.getElem?_append_left (by simpa using hlt)]
            have hb' : s.data[i]? = some b := by simpa using hb
            rw [Array.getElem?_map, hb']
            rfl
          · rw [hsz]
            refine ⟨fun q => by simp at q, fun i _ h2 h3 => ?_, fun j _ h2 h3 => ?_⟩
            · simp at *; omega
            · simp at *; omega
    · cases ha
  · cases ha


theorem liesAt_row {P : Program} {e : TypeId} {s : Nat} (hc : P.cellsOf e = s) (hs : s ≠ 0) (count off n : Nat) (ho : off % s = 0) (hn : off / s + n ≤ count) : liesAt P P.depth e count off e n = true := by
  have hd : P.depth = (2 * (P.types.size + Made.depth) + 1) + 1 := rfl
  rw [hd]
  simp only [liesAt, Bool.or_eq_true]
  left
  rw [hd]
  simp [rowAt, hc, hs, ho, hn, sameLayout]

theorem width_eq (P : Program) (t : TypeId) : P.cellsOf t = width P t := rfl

/-- unsafe.String over a row of bytes. -/
def aunsafeString (P : Program) (pt : TypeId) (x n : Value) (h : AH) : Option (Value × AH) :=
  match P.underlying pt, x, n with
  | some (.pointer e), .pointer (some a), .int .i64 k => match h.get a.block with
    | some (.cells c t fr) => match readBytes h a k.toNat with
      | some l => cond (decide (0 < k) && decide (k ≤ 9223372036854775807) && Nat.beq t e && Nat.beq (width P e) 1 && Nat.beq fr.1 fr.2)
          (some (.string ⟨⟨l⟩⟩, h.set a.block (.cells c t (a.off, a.off + k.toNat)))) none
      | none => none
    | _ => none
  | _, _, _ => none

theorem run_unsafeString_at {P : Program} (w : World) (pt it ty e : TypeId) (hp : P.underlying pt = some (.pointer e)) (hc : P.cellsOf e = 1) (g off cells : Nat) (hsh : w.shape? g = some (e, cells)) (l : List UInt8) (h0 : l ≠ []) (hn : off + l.length ≤ cells)
    (h63 : l.length ≤ 9223372036854775807) (hcell : ∀ (j : Nat) x, l[j]? = some x → w.cell? ((⟨g, off, none⟩ : Addr).add j) = some (.int .u8 x.toNat)) :
    (Builtin.unsafeString_ #[pt, it] ty #[.pointer (some ⟨g, off, none⟩), .int .i64 l.length]).run P w = .ok (.string ⟨l.toArray⟩) (w.freeze ⟨g, off, none⟩ l.length) := by
  have hl : l.length ≠ 0 := by simpa using h0
  have hlb := Lib.run_loadBytes (P := P) w l ⟨g, off, none⟩ .empty hcell
  have hlies := liesAt_row (P := P) hc (by decide) (cells / P.cellsOf e) off l.length (Nat.mod_one off) (by rw [hc]; simpa using hn)
  have h63' : ¬ (9223372036854775807 : Int) < (l.length : Int) := by omega
  have hdef : Builtin.unsafeString_ #[pt, it] ty #[.pointer (some ⟨g, off, none⟩), .int .i64 l.length] =
      (do
        let n ← asInt (.int .i64 l.length)
        if n < 0 then runtimePanic (.error "unsafe.String: len out of range")
        if n > IntKind.i64.max then unsupported (.unsafePointer "String: a length above the largest int")
        if n = 0 then pure (.string .empty)
        else if ← variablesAt ⟨g, off, none⟩ (← elemOf pt) n.toNat then do
          let s ← loadBytes ⟨g, off, none⟩ .empty n.toNat
          freeze ⟨g, off, none⟩ n.toNat
          pure (.string s)
        else unsupported (.unsafePointer "String: not so many bytes at ptr")) := rfl
  rw [hdef]
  have hmax : IntKind.i64.max = 9223372036854775807 := rfl
  have hneg : ¬ (l.length : Int) < 0 := by omega
  simp [asInt, asIntOf, hmax, h63', hneg, hl, variablesAt, hsh, elemOf, run_underlying hp, hlies, hlb]

theorem aunsafeString_ok {P : Program} {N : Emb} {pt it ty : TypeId} {x x' n n' v : Value} {h h' : AH} {w : World} (ha : aunsafeString P pt x n h = some (v, h')) (hx : VRel N x x') (hn : VRel N n n') (hr : HRel P N h w) :
    ∃ v' w', (Builtin.unsafeString_ #[pt, it] ty #[x', n']).run P w = .ok v' w' ∧ VRel N v v' ∧ Ext P N h w N h' w' := by
  unfold aunsafeString at ha
  split at ha
  · rename_i e a k hp
    obtain ⟨f, he, rfl⟩ := hx.addr
    obtain rfl := hn.inv_int
    split at ha
    · rename_i c t fr hb
      split at ha
      · rename_i l hl
        cases hc : (decide (0 < k) && decide (k ≤ 9223372036854775807) && Nat.beq t e && Nat.beq (width P e) 1 && Nat.beq fr.1 fr.2) with
        | false => rw [hc] at ha; cases ha
        | true =>
          rw [hc] at ha
          cases ha
          simp only [Bool.and_eq_true, decide_eq_true_eq] at hc
          obtain ⟨⟨⟨⟨hk, hk2⟩, hte⟩, hwd⟩, hfr⟩ := hc
          have hte := Nat.eq_of_beq_eq_true hte
          have hwd := Nat.eq_of_beq_eq_true hwd
          have hfr := Nat.eq_of_beq_eq_true hfr
          subst hte
          obtain ⟨hsp, hlen, hcell⟩ := readBytes_ok hl hr he
          obtain ⟨c', fr', hw, hz, hd, hs1, hs2, hrow, hf1, hf2, hf3⟩ := hr.row hb he
          have hle : a.off + k.toNat ≤ c.size := by
            unfold readBytes at hl
            rw [hb] at hl
            simp only at hl
            cases hq : (a.spot.isNone && Nat.ble (a.off + k.toNat) c.size) with
            | false => rw [hq] at hl; cases hl
            | true => simp only [Bool.and_eq_true] at hq; exact Nat.le_of_ble_eq_true hq.2
          have hkl : (k : Int) = (l.length : Int) := by omega
          have hsh : w.shape? f.r = some (t, c'.size) := by simp [World.shape?, hw]
          have hrun := run_unsafeString_at (P := P) w pt it ty t hp (by rw [width_eq]; exact hwd) f.r (f.d + a.off) c'.size hsh l (by intro q; rw [q] at hlen; simp at hlen; omega) (by omega) (by omega) hcell
          have hfr' := hf1 hfr
          have hl0 : l.length ≠ 0 := by omega
          refine ⟨.string ⟨l.toArray⟩, w.freeze ⟨f.r, f.d + a.off, none⟩ l.length, ?_, .string _, ?_⟩
          · rw [hsp, hkl]; exact hrun
          · have hself : (w.freeze ⟨f.r, f.d + a.off, none⟩ l.length).heap[f.r]? = some (.cells c' t (f.d + a.off, f.d + a.off + l.length)) := by
              simp [World.freeze, hl0, Array.getElem?_modify, hw, hfr']
            have hoth : ∀ j, j ≠ f.r → (w.freeze ⟨f.r, f.d + a.off, none⟩ l.length).heap[j]? = w.heap[j]? := fun j hj => by
              simp only [World.freeze, hl0, if_false, Array.getElem?_modify]
              rw [if_neg (fun q => hj q.symm)]
            refine ext_set hr hb he (o' := .cells c' t (f.d + a.off, f.d + a.off + l.length)) ?_ ?_ hself hoth ?_ ?_ ?_
            · refine ⟨c', _, rfl, hz, hd, hs1, hs2, hrow, ?_, ?_, ?_⟩
              · intro q; simp at q; omega
              · intro i _ q1 q2; simp at q1 q2 ⊢; omega
              · intro j q1 _ q2; simp at q2; omega
            · simp [World.freeze, hl0]
            · simp [World.freeze, hl0]
            · simp [World.freeze, hl0]
            · simp [World.freeze, hl0]
      · cases ha
    · cases ha
  · cases ha

/-- A pointer seen as unsafe.Pointer, and back at its own type. -/
def aunsafePointer (P : Program) (src dst : TypeId) (x : Value) (h : AH) : Option Value :=
  match P.underlying src, P.underlying dst, x with
  | some (.pointer t), some .unsafePointer, .pointer (some a) => match h.get a.block with
    | some (.cells c _ _) => cond (a.spot.isNone && Nat.blt a.off c.size && Nat.blt 0 (width P t)) (some x) none
    | _ => none
  | some .unsafePointer, some (.pointer u), .pointer (some a) => match h.get a.block with
    | some (.cells c bt _) => cond (a.spot.isNone && Nat.beq bt u && Nat.blt 0 (width P u) && Nat.beq (a.off % width P u) 0 && Nat.ble (a.off + width P u) c.size) (some x)
        (cond (a.spot.isNone && Nat.blt 0 (width P u) && Nat.blt 0 (width P bt) && rowAt P (fun t => sameLayout P P.depth t u) P.depth bt (c.size / width P bt) a.off 1) (some x) none)
    | _ => none
  | _, _, _ => none

/-- What lies in a row lies in a longer one. -/
theorem rowAt_more {P : Program} {fits : TypeId → Bool} {d : Nat} {e : TypeId} {count count' off n k : Nat} (h : rowAt P fits d e count off n = true) (hk : k % P.cellsOf e = 0) (hc : k / P.cellsOf e + count ≤ count') : rowAt P fits d e count' (k + off) n = true := by
  cases d with
  | zero => simp [rowAt] at h
  | succ d =>
    unfold rowAt at h ⊢
    simp only at h ⊢
    split at h
    · cases h
    · rename_i hs
      rw [if_neg hs]
      have hs0 : 0 < P.cellsOf e := Nat.pos_of_ne_zero hs
      have e1 : (k + off) % P.cellsOf e = off % P.cellsOf e := by rw [Nat.add_mod, hk, Nat.zero_add, Nat.mod_mod]
      have e2 : (k + off) / P.cellsOf e = k / P.cellsOf e + off / P.cellsOf e := by
        have := Nat.div_add_mod k (P.cellsOf e)
        rw [hk, Nat.add_zero] at this
        conv => lhs; rw [← this]
        rw [Nat.mul_add_div hs0]
      rw [e1, e2]
      simp only [Bool.or_eq_true, Bool.and_eq_true, decide_eq_true_eq] at h ⊢
      rcases h with ⟨⟨h1, h2⟩, h3⟩ | ⟨h1, h2⟩
      · exact .inl ⟨⟨h1, by omega⟩, h3⟩
      · exact .inr ⟨by omega, h2⟩

theorem run_seenAt {P : Program} {w : World} {r off : Nat} {c : Array Value} {t : TypeId} {fr : Nat × Nat} (hw : w.heap[r]? = some (.cells c t fr)) : (Conv.seenAt ⟨r, off, none⟩).run P w = .ok ⟨r, off, none⟩ w := by
  have : w.shape? r = some (t, c.size) := by simp [World.shape?, hw]
  simp [Conv.seenAt, viewAt, this]

theorem run_sizeOf_width {P : Program} {t : TypeId} (h : 0 < width P t) (w : World) : (sizeOf t).run P w = .ok (width P t) w := by
  unfold width at h ⊢
  cases hc : cellsOf P t with
  | none => rw [hc] at h; simp at h
  | some n => exact run_sizeOf hc w

theorem aunsafePointer_ok {P : Program} {N : Emb} {src dst : TypeId} {x x' v : Value} {h : AH} {w : World} (ha : aunsafePointer P src dst x h = some v) (hx : VRel N x x') (hr : HRel P N h w) :
    ∃ v', (convert src dst x').run P w = .ok v' w ∧ VRel N v v' := by
  unfold aunsafePointer at ha
  split at ha
  · rename_i t a hs hd
    obtain ⟨e, he, rfl⟩ := hx.addr
    split at ha
    · rename_i c bt fr hb
      obtain ⟨c', fr', hw, hz, hdz, hs1, hs2, hrow, _⟩ := hr.row hb he
      cases hc : (a.spot.isNone && Nat.blt a.off c.size && Nat.blt 0 (width P t)) with
      | false => rw [hc] at ha; cases ha
      | true =>
        rw [hc] at ha
        cases ha
        simp only [Bool.and_eq_true] at hc
        have hsp : a.spot = none := by simpa using hc.1.1
        have h1 : a.off < c.size := Nat.le_of_ble_eq_true hc.1.2
        have h2 : 0 < width P t := Nat.le_of_ble_eq_true hc.2
        have hsh : w.shape? e.r = some (bt, c'.size) := by simp [World.shape?, hw]
        refine ⟨_, ?_, hx⟩
        rw [hsp]
        have h3 : ¬ (c'.size ≤ e.d + a.off) := by omega
        have h4 : width P t ≠ 0 := by omega
        simp [convert, run_underlying hs, run_underlying hd, Conv.unsafePointer, run_seenAt hw, cellsIn, hsh, run_sizeOf_width h2, h3, h4]
    · cases ha
  · rename_i u a hs hd
    obtain ⟨e, he, rfl⟩ := hx.addr
    split at ha
    · rename_i c bt fr hb
      obtain ⟨c', fr', hw, hz, hdz, hs1, hs2, hrow, _⟩ := hr.row hb he
      cases hc : (a.spot.isNone && Nat.beq bt u && Nat.blt 0 (width P u) && Nat.beq (a.off % width P u) 0 && Nat.ble (a.off + width P u) c.size) with
      | false =>
        rw [hc] at ha
        simp only [cond_false] at ha
        cases hc2 : (a.spot.isNone && Nat.blt 0 (width P u) && Nat.blt 0 (width P bt) && rowAt P (fun t => sameLayout P P.depth t u) P.depth bt (c.size / width P bt) a.off 1) with
        | false => rw [hc2] at ha; cases ha
        | true =>
          rw [hc2] at ha
          cases ha
          simp only [Bool.and_eq_true] at hc2
          obtain ⟨⟨⟨q1, q2⟩, q3⟩, q4⟩ := hc2
          have hsp : a.spot = none := by simpa using q1
          have h2 : 0 < width P u := Nat.le_of_ble_eq_true q2
          have h3 : 0 < width P bt := Nat.le_of_ble_eq_true q3
          have hsh : w.shape? e.r = some (bt, c'.size) := by simp [World.shape?, hw]
          rw [hs1] at hs2
          have hk : e.d % P.cellsOf bt = 0 := hs2
          have hcnt : e.d / P.cellsOf bt + c.size / width P bt ≤ c'.size / P.cellsOf bt := by
            show e.d / width P bt + c.size / width P bt ≤ c'.size / width P bt
            have := Nat.div_add_mod e.d (width P bt)
            rw [show e.d % width P bt = 0 from hs2, Nat.add_zero] at this
            have h5 := Nat.mul_add_div h3 (e.d / width P bt) c.size
            rw [this] at h5
            rw [← h5]
            exact Nat.div_le_div_right (by omega)
          have hrow2 := rowAt_more q4 hk hcnt
          have hlies : liesAt P P.depth bt (c'.size / P.cellsOf bt) (e.d + a.off) u 1 = true := by
            have hd : P.depth = (2 * (P.types.size + Made.depth) + 1) + 1 := rfl
            rw [hd]
            simp only [liesAt, Bool.or_eq_true]
            left
            exact hrow2
          refine ⟨_, ?_, hx⟩
          rw [hsp]
          have h5 : width P u ≠ 0 := by omega
          simp [convert, run_underlying hs, run_underlying hd, Conv.unsafePointer, run_seenAt hw, run_sizeOf_width h2, variablesAt, hsh, hlies, h5]
      | true =>
        rw [hc] at ha
        cases ha
        simp only [Bool.and_eq_true] at hc
        obtain ⟨⟨⟨⟨q1, q2⟩, q3⟩, q4⟩, q5⟩ := hc
        have hsp : a.spot = none := by simpa using q1
        have h1 := Nat.eq_of_beq_eq_true q2
        have h2 : 0 < width P u := Nat.le_of_ble_eq_true q3
        have h3 := Nat.eq_of_beq_eq_true q4
        have h4 := Nat.le_of_ble_eq_true q5
        subst h1
        have hsh : w.shape? e.r = some (bt, c'.size) := by simp [World.shape?, hw]
        rw [hs1] at hs2
        have hmod : (e.d + a.off) % width P bt = 0 := by
          rw [Nat.add_mod, hs2, h3]; simp
        have hdiv : (e.d + a.off) / width P bt + 1 ≤ c'.size / width P bt := by
          rw [Nat.le_div_iff_mul_le h2, Nat.add_mul, Nat.div_mul_cancel (Nat.dvd_of_mod_eq_zero hmod)]
          omega
        have hlies := liesAt_row (P := P) (e := bt) (width_eq P bt) (by omega) (c'.size / width P bt) (e.d + a.off) 1 hmod hdiv
        refine ⟨_, ?_, hx⟩
        rw [hsp]
        have h5 : width P bt ≠ 0 := by omega
        simp [convert, run_underlying hs, run_underlying hd, Conv.unsafePointer, run_seenAt hw, run_sizeOf_width h2, variablesAt, hsh, width_eq, hlies, h5]
    · cases ha
  · cases ha

/-- 'range' over a string: the iterator. -/
def arange (P : Program) (t : TypeId) (x : Value) (h : AH) : Option (Value × AH) :=
  match P.underlying t, x with
  | some .string, .string s => some (newPtr h, h.push (.stringIter s 0))
  | _, _ => none

theorem arange_ok {P : Program} {N : Emb} {t : TypeId} {x x' v : Value} {h h' : AH} {w : World} (ha : arange P t x h = some (v, h')) (hx : VRel N x x') (hr : HRel P N h w) (hf : Fresh N h h') :
    ∃ v' w' N', (Instr.range t x').run P w = .ok v' w' ∧ VRel N' v v' ∧ Ext P N h w N' h' w' := by
  unfold arange at ha
  split at ha
  · rename_i s hu
    obtain rfl := hx.inv_string
    cases ha
    refine ⟨.pointer (some ⟨w.heap.size, 0, none⟩), { w with heap := w.heap.push (.stringIter s 0) }, _, ?_, vrel_new N _ ⟨w.heap.size, 0, 0, 0⟩ rfl, ext_push hr (fresh_push hf) _ (.stringIter s 0) 0 0 ⟨rfl, rfl⟩ rfl rfl rfl rfl⟩
    simp [Instr.range, run_underlying hu]
  · cases ha

def anext (x : Value) (h : AH) : Option (Value × AH) :=
  match x with
  | .pointer (some ⟨b, 0, none⟩) => match h.get b with
    | some (.stringIter s pos) => cond (Nat.blt pos s.size)
        (match Utf8.decode s pos with
        | (c, n) => some (.tuple ⟨[.bool true, goInt pos, .int .i32 c]⟩, h.set b (.stringIter s (pos + n))))
        (some (.tuple ⟨[.bool false]⟩, h))
    | _ => none
  | _ => none

theorem anext_ok {P : Program} {N : Emb} {ty : TypeId} {x x' v : Value} {h h' : AH} {w : World} (ha : anext x h = some (v, h')) (hx : VRel N x x') (hr : HRel P N h w) :
    ∃ v' w', (Instr.next x' true ty).run P w = .ok v' w' ∧ VRel N v v' ∧ Ext P N h w N h' w' := by
  unfold anext at ha
  split at ha
  · rename_i b
    obtain ⟨e, he, rfl⟩ := hx.addr
    split at ha
    · rename_i s pos hb
      obtain ⟨f, o', h1, h2, h3, h4⟩ := hr.here b _ hb
      simp only at he
      rw [he] at h1
      cases h1
      subst h3
      simp only [h4, Nat.add_zero]
      cases hlt : Nat.blt pos s.size with
      | true =>
        rw [hlt] at ha
        simp only [cond_true] at ha
        have hlt' : pos < s.size := Nat.le_of_ble_eq_true hlt
        cases hdec : Utf8.decode s pos with
        | mk c n =>
          rw [hdec] at ha
          simp only [Option.some.injEq, Prod.mk.injEq] at ha
          obtain ⟨rfl, rfl⟩ := ha
          refine ⟨.tuple #[.bool true, goInt pos, .int .i32 c], { w with heap := w.heap.setIfInBounds e.r (.stringIter s (pos + n)) }, ?_, ?_, ?_⟩
          · simp only [Instr.next, getObj, setObj, Sem.run_bind, Sem.run, h2, Result.andThen, hlt', if_true, hdec]
            rfl
          · exact flat_refl N (by simp [flat, flat2, flat1, goInt])
          · have hlt2 := lt_of_some h2
            refine ext_set hr hb he (o' := .stringIter s (pos + n)) ⟨rfl, h4⟩ (by simp) ?_ ?_ rfl rfl rfl
            · simp [hlt2]
            · intro j hj; simp only; rw [Array.getElem?_setIfInBounds_ne (fun q => hj q.symm)]
      | false =>
        rw [hlt] at ha
        simp only [cond_false, Option.some.injEq, Prod.mk.injEq] at ha
        obtain ⟨rfl, rfl⟩ := ha
        have hge : ¬ pos < s.size := by
          intro q
          have : Nat.blt pos s.size = true := Nat.ble_eq_true_of_le q
          rw [this] at hlt; cases hlt
        refine ⟨.tuple #[.bool false], w, ?_, flat_refl N (by simp [flat, flat2, flat1]), Ext.refl hr⟩
        simp [Instr.next, getObj, Sem.run, h2, hge]
    · cases ha
  · cases ha

end Go.Ev

/-
  The abstract evaluator: append (EvJ).
-/
namespace Go.Ev

theorem HRel.of_heap {P : Program} {N : Emb} {h : AH} {w w' : World} (hr : HRel P N h w) (hw : w'.heap = w.heap) : HRel P N h w' :=
  ⟨fun i o hi => by rw [hw]; exact hr.here i o hi, hr.inj, hr.ids, fun b c hb => by rw [hw]; exact hr.froz b c hb, hr.req⟩

/-- A block is given up. -/
theorem ext_del {P : Program} {N : Emb} {h : AH} {w : World} (hr : HRel P N h w) (b : Nat) : Ext P N h w N (h.del b) w := by
  have hget : ∀ i o, (h.del b).get i = some o → i ≠ b ∧ h.get i = some o := fun i o hi => by
    by_cases hib : i = b
    · subst hib
      have : (h.del i).get i = none := look_delB_self h.blocks
      rw [this] at hi; cases hi
    · exact ⟨hib, by unfold AH.get; rw [← look_delB_ne hib h.blocks]; exact hi⟩
  exact {
    le := Emb.le_refl N
    new := fun i e a c => by rw [a] at c; cases c
    newF := fun i e a c => by rw [a] at c; cases c
    rel := ⟨fun i o hi => hr.here i o (hget i o hi).2, fun i j o p e f hi hj he hf hef => hr.inj i j o p e f (hget i o hi).2 (hget j p hj).2 he hf hef, fun i o hi => hr.ids i o (hget i o hi).2, fun k c hk => ⟨(hr.froz k c hk).1, fun i o e hi he => (hr.froz k c hk).2 i o e (hget i o hi).2 he⟩, hr.req⟩
    size := Nat.le_refl _
    keep := fun _ _ _ => rfl
    tape := rfl
    os := rfl
    output := rfl
    alive := fun i o hi => .inl ⟨o, (hget i o hi).2⟩
    nxt := Nat.le_refl _
    low := Nat.min_le_left _ _
    old := fun i _ hi => look_delB_ne (by have := Nat.lt_of_lt_of_le hi (Nat.min_le_right _ _); omega) h.blocks }

/-- A block is given up for a new name of the same real block. -/
theorem ext_move {P : Program} {N : Emb} {h : AH} {w w' : World} (hr : HRel P N h w) (hf : N h.next = none) {b : Nat} {o₀ o o' : Obj} {e f : Ent} (hb : h.get b = some o₀) (he : N b = some e) (hfe : f.r = e.r)
    (ho : ORel P (N.add h.next f) f o o') (hsz : w'.heap.size = w.heap.size) (hself : w'.heap[e.r]? = some o') (hoth : ∀ j, j ≠ e.r → w'.heap[j]? = w.heap[j]?)
    (ht : w'.tape = w.tape) (hos : w'.os = w.os) (hout : w'.output = w.output) : Ext P N h w (N.add h.next f) ((h.del b).push o) w' := by
  have hle := Emb.le_add hf f
  have hnone : h.get h.next = none := by
    cases hg : h.get h.next with
    | none => rfl
    | some p => obtain ⟨e, _, he, _⟩ := hr.here _ _ hg; rw [hf] at he; cases he
  have hbn : b ≠ h.next := by intro q; rw [q, hnone] at hb; cases hb
  have hnext : (h.del b).next = h.next := rfl
  have hgets : ((h.del b).push o).get h.next = some o := look_cons_self _ _ _
  have hget : ∀ i p, i ≠ h.next → ((h.del b).push o).get i = some p → i ≠ b ∧ h.get i = some p := fun i p hin hi => by
    have h1 : ((h.del b).push o).get i = (h.del b).get i := look_cons_ne (fun q => hin q.symm) _ _
    rw [h1] at hi
    by_cases hib : i = b
    · subst hib
      have : (h.del i).get i = none := look_delB_self h.blocks
      rw [this] at hi; cases hi
    · exact ⟨hib, by unfold AH.get; rw [← look_delB_ne hib h.blocks]; exact hi⟩
  have hNe : ∀ i, i ≠ h.next → (N.add h.next f) i = N i := fun i hi => by simp [Emb.add, hi]
  refine { le := hle, new := ?_, newF := fun b c q1 q2 => (by rw [Emb.add_F, q2] at q1; cases q1), rel := ⟨?_, ?_, ?_, ?_, by rw [Emb.add_F]; exact hr.req⟩, size := by rw [hsz]; exact Nat.le_refl _, keep := ?_, tape := ht, os := hos, output := hout, alive := ?_, nxt := by simp [AH.push, AH.del], low := Nat.min_le_left _ _, old := ?_ }
  · intro i g hi hn
    by_cases hin : i = h.next
    · subst hin
      rw [Emb.add_self] at hi
      cases hi
      exact ⟨Nat.le_refl _, by simp [AH.push, AH.del], .inr ⟨b, o₀, e, hb, he, hfe.symm⟩⟩
    · rw [hNe i hin, hn] at hi; cases hi
  · intro i p hp
    by_cases hin : i = h.next
    · subst hin
      rw [hgets] at hp
      cases hp
      exact ⟨f, o', Emb.add_self _ _ _, by rw [hfe]; exact hself, ho⟩
    · obtain ⟨hib, hp'⟩ := hget i p hin hp
      obtain ⟨g, q, h1, h2, h3⟩ := hr.here i p hp'
      refine ⟨g, q, hle i g h1, ?_, h3.mono hle⟩
      rw [hoth _ (fun hge => hib (hr.inj i b p o₀ g e hp' hb h1 he hge))]
      exact h2
  · intro i j p q g k hi hj hg hk hgk
    by_cases hin : i = h.next
    · by_cases hjn : j = h.next
      · rw [hin, hjn]
      · exfalso
        obtain ⟨hjb, hq'⟩ := hget j q hjn hj
        rw [hNe j hjn] at hk
        rw [hin, Emb.add_self] at hg
        cases hg
        exact hjb (hr.inj j b q o₀ k e hq' hb hk he (by rw [← hgk, hfe]))
    · obtain ⟨hib, hp'⟩ := hget i p hin hi
      rw [hNe i hin] at hg
      by_cases hjn : j = h.next
      · exfalso
        rw [hjn, Emb.add_self] at hk
        cases hk
        exact hib (hr.inj i b p o₀ g e hp' hb hg he (by rw [hgk, hfe]))
      · obtain ⟨hjb, hq'⟩ := hget j q hjn hj
        rw [hNe j hjn] at hk
        exact hr.inj i j p q g k hp' hq' hg hk hgk
  · intro i p hp
    by_cases hin : i = h.next
    · subst hin; simp [AH.push, AH.del]
    · have := hr.ids i p (hget i p hin hp).2
      simp only [AH.push, AH.del]
      omega
  · intro k c hk
    rw [Emb.add_F] at hk
    obtain ⟨⟨t, fr, q1⟩, q2⟩ := hr.froz k c hk
    refine ⟨⟨t, fr, by rw [hoth _ (fun q => q2 b o₀ e hb he q.symm)]; exact q1⟩, fun i p g hp hg => ?_⟩
    by_cases hin : i = h.next
    · subst hin
      rw [Emb.add_self] at hg
      cases hg
      rw [hfe]
      exact q2 b o₀ e hb he
    · rw [hNe i hin] at hg
      exact q2 i p g (hget i p hin hp).2 hg
  · intro blk _ hk
    exact hoth blk (fun q => hk b o₀ e hb he q.symm)
  · intro i p hp
    by_cases hin : i = h.next
    · subst hin; exact .inr ⟨Nat.le_refl _, by simp [AH.push, AH.del]⟩
    · exact .inl ⟨p, (hget i p hin hp).2⟩
  · intro i hi hl
    have h1 : ((h.del b).push o).get i = (h.del b).get i := look_cons_ne (by omega) _ _
    rw [h1]
    have : i < b := Nat.lt_of_lt_of_le hl (Nat.min_le_right _ _)
    exact look_delB_ne (by omega) h.blocks

/-- What is appended: how many elements, and their cells. -/
def srcCells (size : Nat) (x : Value) (h : AH) : Option (Nat × List Value) :=
  match x with
  | .slice none 0 _ => some (0, [])
  | .slice (some _) 0 _ => some (0, [])
  | .slice (some a) n _ => match h.get a.block with
    | some (.cells c _ _) => cond (a.spot.isNone && Nat.ble (a.off + n * size) c.size) (some (n, (c.toList.drop a.off).take (n * size))) none
    | _ => none
  | .string s => cond (Nat.beq size 1) (some (s.size, s.data.toList.map fun b => .int .u8 b.toNat)) none
  | .func (.yield 0) xs _ => cond (xs.toList.all fun x => Nat.beq x.cells.size size) (some (xs.size, xs.toList.flatMap fun x => x.cells.toList)) none
  | _ => none

theorem flat_length (s : Nat) : ∀ (l : List Value), (∀ x ∈ l, x.cells.toList.length = s) → (l.flatMap fun x => x.cells.toList).length = l.length * s
  | [], _ => by simp
  | x :: l, h => by
    rw [List.flatMap_cons, List.length_append, flat_length s l fun y hy => h y (List.mem_cons_of_mem _ hy), h x List.mem_cons_self, List.length_cons, Nat.add_mul]
    omega

theorem flat_get (s : Nat) : ∀ (l : List Value), (∀ x ∈ l, x.cells.toList.length = s) → ∀ (i : Nat) (v : Value), (l.flatMap fun x => x.cells.toList)[i]? = some v →
    ∃ (k j : Nat) (x : Value), l[k]? = some x ∧ x.cells.toList[j]? = some v ∧ i = k * s + j
  | [], _, i, v, h => by simp at h
  | x :: l, hl, i, v, h => by
    rw [List.flatMap_cons] at h
    have hx := hl x List.mem_cons_self
    rcases Nat.lt_or_ge i s with hi | hi
    · rw [List.getElem?_append_left (by omega)] at h
      exact ⟨0, i, x, rfl, h, by omega⟩
    · rw [List.getElem?_append_right (by omega), hx] at h
      obtain ⟨k, j, y, h1, h2, h3⟩ := flat_get s l (fun y hy => hl y (List.mem_cons_of_mem _ hy)) _ v h
      exact ⟨k + 1, j, y, h1, h2, by rw [Nat.add_mul]; omega⟩

theorem srcCells_ok {P : Program} {N : Emb} {size : Nat} {x x' : Value} {h : AH} {w : World} {n : Nat} {xs : List Value} (hs : srcCells size x h = some (n, xs)) (hx : VRel N x x') (hr : HRel P N h w) :
    ∃ xs' : List Value, (Builtin.lenOf x').run P w = .ok n w ∧ (Builtin.firstCells size n x').run P w = .ok ⟨xs'⟩ w ∧ xs.length = xs'.length ∧ xs.length = n * size ∧
      ∀ (i : Nat) v v', xs[i]? = some v → xs'[i]? = some v' → VRel N v v' := by
  unfold srcCells at hs
  split at hs
  · cases hs
    obtain rfl := hx.inv_slice0
    exact ⟨[], by simp [Builtin.lenOf], by simp [Builtin.firstCells], rfl, by simp, by simp⟩
  · cases hs
    obtain ⟨e, o', c', _, _, _, _, _, rfl⟩ := hx.inv_slice
    exact ⟨[], by simp [Builtin.lenOf], by simp [Builtin.firstCells, loadCells, loadCellsFrom], rfl, by simp, by simp⟩
  · rename_i a n' c hne
    split at hs
    · rename_i cc t fr hb
      obtain ⟨e, o', c', hsp, he, _, _, ho, rfl⟩ := hx.inv_slice
      obtain ⟨cr, fr', hw, hz, hd, _, _, hrow, _⟩ := hr.row hb he
      cases hc : (a.spot.isNone && Nat.ble (a.off + n' * size) cc.size) with
      | false => rw [hc] at hs; cases hs
      | true =>
        rw [hc] at hs
        cases hs
        simp only [Bool.and_eq_true] at hc
        have hle := Nat.le_of_ble_eq_true hc.2
        have hn0 : n ≠ 0 := by intro q; subst q; exact hne rfl
        have ho2 : o' = e.d + a.off := ho.resolve_left (by omega)
        have hcr := RowRel.dropTake (N := N) (d := e.d) (c := cc) (c' := cr) hrow hle (by omega)
        refine ⟨(cr.toList.drop (e.d + a.off)).take (n * size), by simp [Builtin.lenOf], ?_, hcr.toList.1, by simp; omega, hcr.toList.2⟩
        rw [ho2]
        simp [Builtin.firstCells, run_loadRow hw (e.d + a.off) (n * size) (by omega)]
    · cases hs
  · rename_i s
    cases hb : Nat.beq size 1 with
    | false => rw [hb] at hs; cases hs
    | true =>
      rw [hb] at hs
      cases hs
      have h1 := Nat.eq_of_beq_eq_true hb
      subst h1
      obtain rfl := hx.inv_string
      refine ⟨s.data.toList.map fun b => .int .u8 b.toNat, by simp [Builtin.lenOf], ?_, rfl, by simp, fun i v v' a b => ?_⟩
      · have : (s.extract 0 s.size).data = s.data := by simp
        simp [Builtin.firstCells]
        apply Array.ext'
        simp
      · rw [a] at b
        cases b
        simp only [List.getElem?_map, Option.map_eq_some_iff] at a
        obtain ⟨_, _, rfl⟩ := a
        exact .int _ _
  · rename_i zs ys
    cases hall : (zs.toList.all fun x => Nat.beq x.cells.size size) with
    | false => rw [hall] at hs; cases hs
    | true =>
      rw [hall] at hs
      cases hs
      have hsz : ∀ x ∈ zs.toList, x.cells.toList.length = size := fun x hx => by
        have := List.all_eq_true.1 hall x hx
        simpa using Nat.eq_of_beq_eq_true this
      have hfl := flat_length size zs.toList hsz
      rcases hx.inv_fz with ⟨rfl, a, c, rfl⟩ | ⟨s', b, o, c, cs, hF, hbd, hc, hss, hcx, rfl⟩
      · refine ⟨[], by simp [Builtin.lenOf], ?_, rfl, by simp, by simp⟩
        cases a <;> simp [Builtin.firstCells, loadCells, loadCellsFrom]
      · obtain ⟨⟨bt, fr, hw⟩, _⟩ := hr.froz b cs hF
        rcases Nat.eq_zero_or_pos zs.size with h0 | h0
        · have : zs = #[] := by simpa using h0
          subst this
          exact ⟨[], by simp [Builtin.lenOf], by simp [Builtin.firstCells, loadCells, loadCellsFrom], rfl, by simp, by simp⟩
        · have hse : s' = size := by
            have h1 := hss 0 zs[0] (by simp [h0])
            have h2 := hsz zs[0] (by simp)
            simp at h2
            omega
          subst hse
          refine ⟨(cs.toList.drop o).take (zs.size * s'), by simp [Builtin.lenOf], ?_, ?_, ?_, ?_⟩
          · simp [Builtin.firstCells, run_loadRow hw o (zs.size * s') (by omega)]
          · rw [hfl]; simp; omega
          · rw [hfl]; simp
          · intro i v v' h1 h2
            obtain ⟨k, j, x, hk, hj, hi⟩ := flat_get s' zs.toList hsz i v h1
            simp only [List.getElem?_take, List.getElem?_drop] at h2
            split at h2
            · refine (hcx k j x v v' (by simpa using hk) (by simpa using hj) ?_).undrop
              rw [hi] at h2
              rw [Nat.add_assoc]
              simpa using h2
            · cases h2
  · cases hs

/-- A slice or a string. -/
def rowKind : TypeDesc → Bool
  | .slice _ | .string => true
  | _ => false

/-- .. or a number: so many zeros. -/
def appK : TypeDesc → Bool
  | .slice _ | .string | .int _ => true
  | _ => false
/-- What is appended: a row's elements, or so many zeros. -/
def AppArg (P : Program) (d : TypeDesc) (i : TypeInfo) (z x : Value) (n : Nat) (xs : List Value) (w : World) : Prop :=
  (rowKind d = true ∧ (Builtin.lenOf x).run P w = .ok n w ∧ (Builtin.firstCells i.size n x).run P w = .ok ⟨xs⟩ w) ∨
  (∃ k l, d = .int k ∧ x = .int .i64 l ∧ 0 ≤ l ∧ l ≤ 1000000000 ∧ l.toNat = n ∧ n * i.bytes ≤ 140737488355328 ∧ i.zero = some z ∧ z.cells.size = i.size ∧ 0 < i.size ∧ xs = (Builtin.zeroCells z.cells n).toList)
theorem AppArg.num {P : Program} {d : TypeDesc} {i : TypeInfo} {z x : Value} {n : Nat} {xs : List Value} {w : World} (h : ∃ k l, d = .int k ∧ x = .int .i64 l ∧ 0 ≤ l ∧ l ≤ 1000000000 ∧ l.toNat = n ∧ n * i.bytes ≤ 140737488355328 ∧ i.zero = some z ∧ z.cells.size = i.size ∧ 0 < i.size ∧ xs = (Builtin.zeroCells z.cells n).toList) :
    ∃ k l, d = .int k ∧ x = .int .i64 l ∧ IntKind.i64.wrap l = l ∧ ¬ l < 0 ∧ ¬ (281474976710656 < l * (i.bytes : Int)) ∧ l.toNat = n ∧ i.zero = some z ∧ (n * i.size = 0 → xs = []) ∧ xs = (Builtin.zeroCells z.cells n).toList := by
  obtain ⟨k, l, rfl, rfl, h0, h1, rfl, h2, h3, h4, h5, rfl⟩ := h
  refine ⟨k, l, rfl, rfl, IntWalk.i64_in l (by omega), by omega, ?_, rfl, h3, ?_, rfl⟩
  · have h9 : ((l.toNat * i.bytes : Nat) : Int) ≤ ((140737488355328 : Nat) : Int) := Int.ofNat_le.2 h2
    rw [Int.natCast_mul, Int.toNat_of_nonneg h0] at h9
    omega
  · intro q
    have : l.toNat = 0 := by
      rcases Nat.mul_eq_zero.1 q with q | q
      · exact q
      · omega
    simp [Builtin.zeroCells, this]

theorem run_append_in {P : Program} (w : World) (t u ty e : TypeId) (d : TypeDesc) (i : TypeInfo) (z : Value) (ht : P.underlying t = some (.slice e)) (hu : P.underlying u = some d) (hi : P.info? e = some i)
    (a : Addr) (sLen sCap : Nat) (x : Value) (n : Nat) (xs : List Value) (hA : AppArg P d i z x n xs w) (hfit : sLen + n ≤ sCap) {w' : World}
    (hst : (storeCells (a.add (sLen * i.size)) xs).run P w = .ok () w') :
    (Builtin.append_ #[t, u] ty #[.slice (some a) sLen sCap, x]).run P w = .ok (.slice (some a) (sLen + n) sCap) w' := by
  rcases hA with ⟨hd, hlen, hx⟩ | hA
  · cases d <;> simp [rowKind] at hd <;>
      simp [Builtin.append_, run_underlying ht, run_underlying hu, sizeOf, typeInfo, hi, hlen, hx, hfit, hst]
  · obtain ⟨k, l, rfl, rfl, wl, n1, n2, hn, hz, h0, hx⟩ := AppArg.num (P := P) (w := w) hA
    clear hA
    by_cases q : n * i.size = 0
    · obtain rfl := h0 q
      clear h0 hx
      simp [Builtin.append_, run_underlying ht, run_underlying hu, sizeOf, typeInfo, hi, asInt, asIntOf, wl, n1, n2, hn, hfit, q, hst]
    · clear h0
      subst hx
      simp [Builtin.append_, run_underlying ht, run_underlying hu, sizeOf, typeInfo, zeroValue, hi, hz, asInt, asIntOf, wl, n1, n2, hn, hfit, q, hst]

theorem run_append_in_none {P : Program} (w : World) (t u ty e : TypeId) (d : TypeDesc) (i : TypeInfo) (z : Value) (ht : P.underlying t = some (.slice e)) (hu : P.underlying u = some d) (hi : P.info? e = some i)
    (sLen sCap : Nat) (x : Value) (n : Nat) (xs : List Value) (hA : AppArg P d i z x n xs w) (hfit : sLen + n ≤ sCap) :
    (Builtin.append_ #[t, u] ty #[.slice none sLen sCap, x]).run P w = .ok (.slice none (sLen + n) sCap) w := by
  rcases hA with ⟨hd, hlen, hx⟩ | hA
  · cases d <;> simp [rowKind] at hd <;>
      simp [Builtin.append_, run_underlying ht, run_underlying hu, sizeOf, typeInfo, hi, hlen, hx, hfit]
  · obtain ⟨k, l, rfl, rfl, wl, n1, n2, hn, hz, h0, hx⟩ := AppArg.num (P := P) (w := w) hA
    clear hA h0 hx
    by_cases q : n * i.size = 0
    · simp [Builtin.append_, run_underlying ht, run_underlying hu, sizeOf, typeInfo, hi, asInt, asIntOf, wl, n1, n2, hn, hfit, q]
    · simp [Builtin.append_, run_underlying ht, run_underlying hu, sizeOf, typeInfo, zeroValue, hi, hz, asInt, asIntOf, wl, n1, n2, hn, hfit, q]

theorem run_append_out {P : Program} (w : World) (t u ty e : TypeId) (d : TypeDesc) (i : TypeInfo) (z : Value) (ht : P.underlying t = some (.slice e)) (hu : P.underlying u = some d) (hi : P.info? e = some i) (hz : i.zero = some z)
    (base : Option Addr) (sLen sCap : Nat) (x : Value) (n : Nat) (xs olds : List Value) {ys : List Value} (hA0 : AppArg P d i z x n ys w) (hA : AppArg P d i z x n xs w.drew)
    (hold : (Builtin.firstCells i.size sLen (.slice base sLen sCap)).run P w.drew = .ok ⟨olds⟩ w.drew) (hg : sCap < sLen + n) (h63 : sLen + n ≤ 9223372036854775807) (hfit : (sLen + n) * i.bytes ≤ 140737488355328) :
    (Builtin.append_ #[t, u] ty #[.slice base sLen sCap, x]).run P w =
      .ok (.slice (some ⟨w.heap.size, 0, none⟩) (sLen + n) (grownCap w (sLen + n) sCap e)) (w.drew.alloc (.cells ((olds ++ xs).toArray ++ Builtin.zeroCells z.cells (grownCap w (sLen + n) sCap e - (sLen + n))) e)) := by
  have hn : ¬ (sLen + n ≤ sCap) := by omega
  have h63' : ¬ (9223372036854775807 < ((sLen : Int) + (n : Int))) := by omega
  have h48 := growslice_fits hg hfit
  have h48' : ¬ (281474976710656 < Builtin.nextslicecap (sLen + n) sCap * i.bytes) := by omega
  rcases hA with ⟨hd, _, hx⟩ | hA
  · have hlen : (Builtin.lenOf x).run P w = .ok n w := by
      rcases hA0 with ⟨_, hl, _⟩ | hA0
      · exact hl
      · obtain ⟨k, l, rfl, _⟩ := AppArg.num (P := P) (w := w) hA0
        simp [rowKind] at hd
    cases d <;> simp [rowKind] at hd <;>
      simp [Builtin.append_, run_underlying ht, run_underlying hu, sizeOf, typeInfo, zeroValue, hi, hz, hlen, hx, hold, hn, h63', h48', Question.forced, newRow, grownCap] <;>
      (rw [← Array.append_assoc]; congr 3; apply Array.ext'; simp)
  · obtain ⟨k, l, rfl, rfl, wl, n1, n2, hm, hz2, h0, hx⟩ := AppArg.num (P := P) (w := w) hA
    clear hA hA0
    have h63b : ¬ (9223372036854775807 < (sLen : Int) + max l 0) := by omega
    by_cases q : n * i.size = 0
    · obtain rfl := h0 q
      clear h0 hx
      simp [Builtin.append_, run_underlying ht, run_underlying hu, sizeOf, typeInfo, zeroValue, hi, hz, hold, hn, asInt, asIntOf, wl, n1, n2, hm, h63', h63b, h48', q, Question.forced, newRow, grownCap]
    · clear h0
      subst hx
      simp [Builtin.append_, run_underlying ht, run_underlying hu, sizeOf, typeInfo, zeroValue, hi, hz, hold, hn, asInt, asIntOf, wl, n1, n2, hm, h63', h63b, h48', q, Question.forced, newRow, grownCap]
      rw [← Array.append_assoc]; congr 3; apply Array.ext'; simp

/-- What is appended, abstractly. -/
def appSrc (size bytes : Nat) (z : Value) (d : TypeDesc) (x : Value) (h : AH) : Option (Nat × List Value) :=
  match d with
  | .int _ => match x with
    | .int .i64 l => cond (decide (0 ≤ l) && decide (l ≤ 1000000000) && Nat.ble (l.toNat * bytes) 140737488355328 && z.cells.toList.all flat1) (some (l.toNat, zlist z.cells (l.toNat * size))) none
    | _ => none
  | _ => srcCells size x h
theorem appSrc_ok {P : Program} {N : Emb} {d : TypeDesc} {i : TypeInfo} {z x x' : Value} {h : AH} {w : World} {n : Nat} {xs : List Value} (hs : appSrc i.size i.bytes z d x h = some (n, xs)) (hk : appK d = true) (hz : i.zero = some z) (hzs : z.cells.size = i.size) (hi0 : 0 < i.size) (hx : VRel N x x') (hr : HRel P N h w) :
    ∃ xs' : List Value, AppArg P d i z x' n xs' w ∧ xs.length = xs'.length ∧ xs.length = n * i.size ∧ ∀ (k : Nat) v v', xs[k]? = some v → xs'[k]? = some v' → VRel N v v' := by
  unfold appSrc at hs
  split at hs
  · rename_i k
    split at hs
    · rename_i l
      cases hb : (decide (0 ≤ l) && decide (l ≤ 1000000000) && Nat.ble (l.toNat * i.bytes) 140737488355328 && z.cells.toList.all flat1) with
      | false => rw [hb] at hs; cases hs
      | true =>
        rw [hb] at hs
        cases hs
        simp only [Bool.and_eq_true, decide_eq_true_eq, List.all_eq_true] at hb
        obtain ⟨⟨⟨b0, b1⟩, b2⟩, b3⟩ := hb
        obtain rfl := hx.inv_int
        have ez : (Builtin.zeroCells z.cells l.toNat).toList = zlist z.cells (l.toNat * i.size) := by
          have := zlist_eq z.cells (l.toNat * i.size) (.inr (by omega))
          rw [hzs] at this
          unfold Builtin.zeroCells
          rw [hzs, this]
        refine ⟨zlist z.cells (l.toNat * i.size), .inr ⟨k, l, rfl, rfl, b0, b1, rfl, Nat.le_of_ble_eq_true b2, hz, hzs, hi0, ez.symm⟩, rfl, by simp [zlist], fun k v v' p q => ?_⟩
        rw [p] at q
        cases q
        have hm := List.mem_of_getElem? p
        simp only [zlist, List.mem_map, List.mem_range] at hm
        obtain ⟨j, _, rfl⟩ := hm
        have hj : j % z.cells.size < z.cells.size := Nat.mod_lt _ (by omega)
        rw [Array.getElem?_eq_getElem hj]
        exact flat1_refl N (b3 _ (by simp))
    · cases hs
  · rename_i hd
    obtain ⟨xs', h1, h2, h3, h4, h5⟩ := srcCells_ok hs hx hr
    refine ⟨xs', .inl ⟨?_, h1, h2⟩, h3, h4, h5⟩
    cases d <;> first | rfl | (simp [appK] at hk; done) | exact absurd rfl (hd _)

def aappend (P : Program) (t u : TypeId) (s x : Value) (h : AH) : Option (Value × AH) :=
  match P.underlying t, P.underlying u, s with
  | some (.slice e), some d, .slice base sLen sCap => match P.info? e with
    | none => none
    | some i => match i.zero with
      | none => none
      | some z => match appSrc i.size i.bytes z d x h with
        | none => none
        | some (n, xs) => cond (appK d && Nat.beq z.cells.size i.size && Nat.blt 0 i.size)
          (cond (Nat.ble (sLen + n) sCap)
            (match base with
            | none => some (.slice none (sLen + n) sCap, h)
            | some a => match storeA h (a.add (sLen * i.size)) xs with
              | none => none
              | some h' => some (.slice (some a) (sLen + n) sCap, h'))
            (cond (Nat.ble (sLen + n) 9223372036854775807 && Nat.ble ((sLen + n) * i.bytes) 140737488355328)
              (match base with
              | none => cond (Nat.beq sLen 0) (some (.slice (some ⟨h.next, 0, none⟩) n n, h.push (.cells ⟨xs⟩ e))) none
              | some a => match h.get a.block with
                | some (.cells c bt fr) =>
                  cond (a.spot.isNone && Nat.beq (width P bt) i.size && Nat.beq bt e && Nat.ble (a.off + sLen * i.size) c.size && (Nat.beq fr.1 fr.2 || Nat.ble fr.2 (a.off + sLen * i.size)) && xs.all oneCell)
                    (some (.slice (some ⟨h.next, 0, none⟩) (sLen + n) (sLen + n),
                      (h.del a.block).push (.cells ⟨(c.toList.drop a.off).take (sLen * i.size) ++ xs⟩ e (cond (Nat.beq fr.1 fr.2) (0, 0) (0, (sLen + n) * i.size))))) none
                | _ => none) none)) none
  | _, _, _ => none

theorem CRel.append {N : Emb} {a a' b b' : List Value} (ha : CRel N ⟨a⟩ ⟨a'⟩) (hb : CRel N ⟨b⟩ ⟨b'⟩) : CRel N ⟨a ++ b⟩ ⟨a' ++ b'⟩ := by
  have h1 : a.length = a'.length := by simpa using ha.1
  have h2 : b.length = b'.length := by simpa using hb.1
  refine ⟨by simp [h1, h2], fun i v v' x y => ?_⟩
  simp only [List.getElem?_toArray] at x y
  by_cases hi : i < a.length
  · rw [List.getElem?_append_left hi] at x
    rw [List.getElem?_append_left (by omega)] at y
    exact ha.2 i v v' (by simpa using x) (by simpa using y)
  · rw [List.getElem?_append_right (by omega)] at x
    rw [List.getElem?_append_right (by omega)] at y
    rw [← h1] at y
    exact hb.2 _ v v' (by simpa using x) (by simpa using y)

/-- A row with spare cells behind it. -/
theorem orel_spare {P : Program} {N : Emb} {r : Nat} {c c' : List Value} {t : TypeId} {fr : Nat × Nat} (h : CRel N ⟨c⟩ ⟨c'⟩) (rest : Array Value) :
    ORel P N ⟨r, 0, width P t, c'.length + rest.size⟩ (.cells ⟨c⟩ t fr) (.cells (c'.toArray ++ rest) t) := by
  have hl : c.length = c'.length := by simpa using h.1
  refine ⟨_, (0, 0), rfl, by simp, by simp [hl], rfl, by simp, ?_, ?_⟩
  · intro i v hv
    obtain ⟨v', h1, h2⟩ := h.get hv
    refine ⟨v', ?_, h2⟩
    have hi : i < c'.length := by
      have := (List.getElem?_eq_some_iff.1 (by simpa using h1 : c'[i]? = some v')).1
      exact this
    rw [Nat.zero_add, Array.getElem?_append_left (by simpa using hi)]
    exact h1
  · exact ⟨fun _ => rfl, fun i _ _ h2 => absurd h2 (by simp), fun j _ _ h2 => absurd h2.2 (by simp)⟩

theorem putAll_get_lt : ∀ (vs : List Value) (c : Array Value) (off i : Nat), i < off → (putAll c off vs)[i]? = c[i]?
  | [], _, _, _, _ => rfl
  | v :: vs, c, off, i, h => by
    simp only [putAll]
    rw [putAll_get_lt vs _ (off + 1) i (by omega), Array.getElem?_setIfInBounds_ne (by omega)]

theorem putAll_get : ∀ (vs : List Value) (c : Array Value) (off i : Nat), off + vs.length ≤ c.size → i < vs.length → (putAll c off vs)[off + i]? = vs[i]?
  | [], _, _, i, _, h => by simp at h
  | v :: vs, c, off, i, hc, hi => by
    simp only [putAll]
    simp only [List.length_cons] at hc hi
    cases i with
    | zero =>
      rw [putAll_get_lt vs _ (off + 1) (off + 0) (by omega)]
      simp only [Nat.add_zero]
      rw [Array.getElem?_setIfInBounds_self_of_lt (by omega)]
      rfl
    | succ i =>
      have := putAll_get vs (c.setIfInBounds off v) (off + 1) i (by simp; omega) (by omega)
      rw [show off + (i + 1) = off + 1 + i from by omega, this]
      simp

theorem aappend_ok {P : Program} {N : Emb} {t u ty : TypeId} {s s' x x' v : Value} {h h' : AH} {w : World} (ha : aappend P t u s x h = some (v, h')) (hs : VRel N s s') (hx : VRel N x x') (hr : HRel P N h w) (hf : Fresh N h h') :
    ∃ v' w' N', (Builtin.append_ #[t, u] ty #[s', x']).run P w = .ok v' w' ∧ VRel N' v v' ∧ Ext P N h w N' h' w' := by
  unfold aappend at ha
  split at ha
  · rename_i e d base sLen sCap ht hu
    split at ha
    · cases ha
    · rename_i i hi
      split at ha
      · cases ha
      · rename_i z hz
        split at ha
        · cases ha
        · rename_i n xs hsrc
          cases hc0 : (appK d && Nat.beq z.cells.size i.size && Nat.blt 0 i.size) with
          | false => rw [hc0] at ha; cases ha
          | true =>
            rw [hc0] at ha
            simp only [cond_true] at ha
            simp only [Bool.and_eq_true] at hc0
            have hd := hc0.1.1
            have hzs := Nat.eq_of_beq_eq_true hc0.1.2
            have hi0 : 0 < i.size := Nat.le_of_ble_eq_true hc0.2
            obtain ⟨xs', hA, hxl, hxn, hxr⟩ := appSrc_ok hsrc hd hz hzs hi0 hx hr
            have hwd : width P e = i.size := by simp [width, cellsOf, hi]
            cases hfit : Nat.ble (sLen + n) sCap with
            | true =>
              rw [hfit] at ha
              simp only [cond_true] at ha
              have hfit := Nat.le_of_ble_eq_true hfit
              split at ha
              · cases ha
                obtain rfl := hs.inv_slice0
                exact ⟨_, w, N, run_append_in_none w t u ty e d i z ht hu hi sLen sCap x' n xs' hA hfit, .slice0 _ _, Ext.refl hr⟩
              · rename_i a
                split at ha
                · cases ha
                · rename_i h1 hst
                  cases ha
                  obtain ⟨f, o', c', hsp, he, hcc, hzz, ho, rfl⟩ := hs.inv_slice
                  have hblk : (a.add (sLen * i.size)).block = a.block := by unfold Addr.add; split <;> rfl
                  -- where it is written
                  have hadd : ∃ w', (storeCells ((⟨f.r, o', none⟩ : Addr).add (sLen * i.size)) xs').run P w = .ok () w' ∧ Ext P N h w N h' w' := by
                    rcases ho with ⟨h01, h02, _⟩ | ho
                    · have hn0 : n = 0 := by omega
                      subst hn0
                      have hx0 : xs = [] := by
                        have : xs.length = 0 := by rw [hxn]; simp
                        exact List.eq_nil_of_length_eq_zero this
                      subst hx0
                      have hx0' : xs' = [] := by
                        have : xs'.length = 0 := by rw [← hxl]; rfl
                        exact List.eq_nil_of_length_eq_zero this
                      subst hx0'
                      have : h' = h := by simp [storeA] at hst; exact hst.symm
                      subst this
                      exact ⟨w, by simp [storeCells], Ext.refl hr⟩
                    · obtain ⟨w', h2, h3⟩ := storeA_ok (a := a.add (sLen * i.size)) hst (by rw [hblk]; exact he) hxl hxr hr
                      refine ⟨w', ?_, h3⟩
                      rw [add_none]
                      have hoff : (a.add (sLen * i.size)).off = a.off + sLen * i.size := by
                        unfold Addr.add
                        split
                        · rename_i q; rw [q]; rfl
                        · rfl
                      have hspot : (a.add (sLen * i.size)).spot = none := by
                        unfold Addr.add
                        split
                        · exact hsp
                        · rfl
                      rw [hoff, hspot] at h2
                      rw [ho, Nat.add_assoc]
                      exact h2
                  obtain ⟨w', h2, h3⟩ := hadd
                  refine ⟨_, w', N, run_append_in w t u ty e d i z ht hu hi ⟨f.r, o', none⟩ sLen c' x' n xs' hA (by omega) h2, ?_, h3⟩
                  obtain ⟨ab, ao, asp⟩ := a
                  simp only at hsp he ho
                  subst hsp
                  refine .slice ab ao (sLen + n) sCap f o' c' he hcc hzz ?_
                  rcases ho with ⟨q1, q2, q3⟩ | q
                  · exact .inl ⟨by omega, q2, q3⟩
                  · exact .inr q
            | false =>
              rw [hfit] at ha
              simp only [cond_false] at ha
              have hgt : sCap < sLen + n := by
                rcases Nat.lt_or_ge sCap (sLen + n) with q | q
                · exact q
                · rw [Nat.ble_eq_true_of_le q] at hfit; cases hfit
              cases hlim : (Nat.ble (sLen + n) 9223372036854775807 && Nat.ble ((sLen + n) * i.bytes) 140737488355328) with
              | false => rw [hlim] at ha; cases ha
              | true =>
                rw [hlim] at ha
                simp only [cond_true] at ha
                simp only [Bool.and_eq_true] at hlim
                have h63 := Nat.le_of_ble_eq_true hlim.1
                have hbytes := Nat.le_of_ble_eq_true hlim.2
                have hrd : HRel P N h w.drew := hr.of_heap rfl
                obtain ⟨ys', hA2, hyl, _, hyr⟩ := appSrc_ok hsrc hd hz hzs hi0 hx hrd
                have hys : CRel N ⟨xs⟩ ⟨ys'⟩ := ⟨by simpa using hyl, fun k a b p q => hyr k a b (by simpa using p) (by simpa using q)⟩
                split at ha
                · cases hs0 : Nat.beq sLen 0 with
                  | false => rw [hs0] at ha; cases ha
                  | true =>
                    rw [hs0] at ha
                    cases ha
                    have hs0 := Nat.eq_of_beq_eq_true hs0
                    subst hs0
                    obtain rfl := hs.inv_slice0
                    rw [Nat.zero_add] at hgt h63 hbytes
                    have hrun := run_append_out (P := P) w t u ty e d i z ht hu hi hz none 0 sCap x' n ys' [] hA hA2 (by simp [Builtin.firstCells]) (by omega) (by omega) (by simpa using hbytes)
                    rw [Nat.zero_add] at hrun
                    have hcap := le_cut w n sCap e
                    generalize hg : grownCap w n sCap e = g at hrun hcap
                    rw [List.nil_append] at hrun
                    have hzl : (Builtin.zeroCells z.cells (g - n)).size = (g - n) * i.size := by simp [Builtin.zeroCells, hzs]
                    refine ⟨_, _, N.add h.next ⟨w.heap.size, 0, width P e, ys'.length + (Builtin.zeroCells z.cells (g - n)).size⟩, hrun, ?_, ?_⟩
                    · refine vrel_newSlice N _ _ _ _ _ rfl hcap (.inr ⟨?_, by simp⟩)
                      simp only [hwd, hzl]
                      rw [← hyl, hxn, ← Nat.add_mul]
                      have : n + (g - n) = g := by omega
                      rw [this]
                      omega
                    · exact ext_push hr (fresh_push hf) _ _ _ _ (orel_spare (hys.mono (Emb.le_add (fresh_push hf) _)) _) rfl rfl rfl rfl
                · rename_i a
                  split at ha
                  · rename_i c bt fr hb
                    cases hcond : (a.spot.isNone && Nat.beq (width P bt) i.size && Nat.beq bt e && Nat.ble (a.off + sLen * i.size) c.size && (Nat.beq fr.1 fr.2 || Nat.ble fr.2 (a.off + sLen * i.size)) && xs.all oneCell) with
                    | false => rw [hcond] at ha; cases ha
                    | true =>
                      rw [hcond] at ha
                      cases ha
                      simp only [Bool.and_eq_true, Bool.or_eq_true, List.all_eq_true] at hcond
                      obtain ⟨⟨⟨⟨⟨q1, q2⟩, q3⟩, q4⟩, q5⟩, q6⟩ := hcond
                      have hw1 := Nat.eq_of_beq_eq_true q2
                      have hbt := Nat.eq_of_beq_eq_true q3
                      have hle := Nat.le_of_ble_eq_true q4
                      subst hbt
                      obtain ⟨f, o', c', hsp, he, hcc, hzz, ho, rfl⟩ := hs.inv_slice
                      obtain ⟨cr, fr', hw, hz1, hd1, hs1, hs2, hrow, hf1, hf2, hf3⟩ := hr.row hb he
                      have hfs : f.s = i.size := by rw [hs1, hw1]
                      have hNn : N h.next = none := hf h.next (Nat.le_refl _) (by simp [AH.push, AH.del])
                      have hoge : f.d + a.off ≤ o' := by rcases ho with ⟨_, _, q⟩ | q <;> omega
                      have holdc := RowRel.dropTake (N := N) (d := f.d) (c := c) (c' := cr) hrow hle (by omega)
                      by_cases hin : sLen + n ≤ c'
                      · -- there is room in the real row
                        obtain ⟨hzz1, hzz2⟩ := hzz.resolve_left (by omega)
                        rw [hfs] at hzz1 hzz2
                        have hroom : o' + (sLen + n) * i.size ≤ f.z := Nat.le_trans (Nat.add_le_add_left (Nat.mul_le_mul_right _ hin) _) hzz1
                        have hsum : (sLen + n) * i.size = sLen * i.size + n * i.size := Nat.add_mul _ _ _
                        have hfree : ∀ j, o' + sLen * i.size ≤ j → j < f.z → ¬ (fr'.1 ≤ j ∧ j < fr'.2) := by
                          intro j h1 h2 h3
                          by_cases hj : f.d + c.size ≤ j
                          · exact hf3 j hj h2 h3
                          · have hji : f.d + (j - f.d) = j := by omega
                            have := hf2 (j - f.d) (by omega) (by omega) (by omega)
                            rcases q5 with q | q
                            · have := Nat.eq_of_beq_eq_true q; omega
                            · have := Nat.le_of_ble_eq_true q; omega
                        have hone' : ∀ v ∈ xs', v.oneCell' = true := by
                          intro v hv'
                          obtain ⟨k, hk⟩ := List.getElem?_of_mem hv'
                          have hlt : k < xs.length := by
                            rw [hxl]
                            exact (List.getElem?_eq_some_iff.1 hk).1
                          exact oneCell_rel (hxr k _ v (List.getElem?_eq_getElem hlt) hk) (q6 _ (List.getElem_mem hlt))
                        obtain ⟨w', h1, h2, h3, h4, h5, h6, h7⟩ := run_storeRow (P := P) xs' cr (o' + sLen * i.size) 0 w hw (by rw [← hxl, hxn, hz1]; omega)
                          (fun j p q => hfree j (by omega) (by rw [← hxl, hxn] at q; omega)) hone'
                        have hst : (storeCells ((⟨f.r, o', none⟩ : Addr).add (sLen * i.size)) xs').run P w = .ok () w' := by rw [add_none]; exact h1
                        refine ⟨_, w', N.add h.next ⟨f.r, o', i.size, f.z⟩, run_append_in w t u ty bt d i z ht hu hi ⟨f.r, o', none⟩ sLen c' x' n xs' hA hin hst, ?_, ?_⟩
                        · exact .slice h.next 0 (sLen + n) (sLen + n) ⟨f.r, o', i.size, f.z⟩ o' c' (Emb.add_self _ _ _) hin (.inr ⟨hzz1, hzz2⟩) (.inr rfl)
                        · refine ext_move hr hNn hb he rfl (o' := .cells (putAll cr (o' + sLen * i.size) xs') bt fr') ?_ h2 h3 h4 h5 h6 h7
                          have hlold : ((c.toList.drop a.off).take (sLen * i.size)).length = sLen * i.size := by simp; omega
                          refine ⟨_, fr', rfl, by rw [putAll_size]; exact hz1, ?_, by rw [hwd], hzz2, ?_, ?_, ?_, ?_⟩
                          · simp only [List.size_toArray, List.length_append, hlold, hxn]; omega
                          · intro k v hv
                            simp only [List.getElem?_toArray] at hv
                            by_cases hk : k < sLen * i.size
                            · rw [List.getElem?_append_left (by omega)] at hv
                              have ho2 : o' = f.d + a.off := by
                                rcases ho with ⟨p1, _, _⟩ | q
                                · subst p1; simp at hk
                                · exact q
                              have hv2 : c[a.off + k]? = some v := by
                                rw [List.getElem?_take, if_pos hk, List.getElem?_drop] at hv
                                simpa using hv
                              obtain ⟨v', p1, p2⟩ := hrow (a.off + k) v hv2
                              refine ⟨v', ?_, p2.mono (Emb.le_add hNn _)⟩
                              rw [putAll_get_lt _ _ _ _ (by simp only; omega)]
                              simp only [ho2, Nat.add_assoc]
                              exact p1
                            · rw [List.getElem?_append_right (by omega), hlold] at hv
                              have hklt : k - sLen * i.size < xs.length := (List.getElem?_eq_some_iff.1 hv).1
                              have hv' : xs'[k - sLen * i.size]? = some (xs'[k - sLen * i.size]'(by omega)) := List.getElem?_eq_getElem (by omega)
                              refine ⟨_, ?_, (hxr _ _ _ hv hv').mono (Emb.le_add hNn _)⟩
                              have := putAll_get xs' cr (o' + sLen * i.size) (k - sLen * i.size) (by rw [← hxl, hxn, hz1]; omega) (by omega)
                              rw [show o' + sLen * i.size + (k - sLen * i.size) = o' + k from by omega] at this
                              simp only
                              rw [this]
                              exact hv'
                          · intro q
                            apply hf1
                            cases hq : Nat.beq fr.1 fr.2 with
                            | true => exact Nat.eq_of_beq_eq_true hq
                            | false =>
                              rw [hq] at q
                              simp only [cond_false] at q
                              have : 0 < (sLen + n) * i.size := Nat.mul_pos (by omega) hi0
                              omega
                          · intro k hk p1 p2
                            simp only [List.size_toArray, List.length_append, hlold, hxn] at hk
                            cases hq : Nat.beq fr.1 fr.2 with
                            | true =>
                              have := hf1 (Nat.eq_of_beq_eq_true hq)
                              simp only at p1 p2
                              omega
                            | false =>
                              simp only [cond_false]
                              omega
                          · intro j p1 p2 p3
                            simp only [List.size_toArray, List.length_append, hlold, hxn] at p1
                            exact hfree j (by omega) p2 p3
                      · -- a new row
                        have hw2 : w.drew.heap[f.r]? = some (.cells cr bt fr') := hw
                        have holdr : (Builtin.firstCells i.size sLen (.slice (some ⟨f.r, o', none⟩) sLen c')).run P w.drew = .ok ⟨(cr.toList.drop (f.d + a.off)).take (sLen * i.size)⟩ w.drew := by
                          rcases ho with ⟨p1, _, _⟩ | q
                          · subst p1; simp [Builtin.firstCells, loadCells, loadCellsFrom]
                          · rw [q]; simp [Builtin.firstCells, run_loadRow hw2 (f.d + a.off) (sLen * i.size) (by omega)]
                        have hrun := run_append_out (P := P) w t u ty bt d i z ht hu hi hz (some ⟨f.r, o', none⟩) sLen c' x' n ys' _ hA hA2 holdr (by omega) h63 hbytes
                        have hcap := le_cut w (sLen + n) c' bt
                        generalize hg : grownCap w (sLen + n) c' bt = g at hrun hcap
                        have hzl : (Builtin.zeroCells z.cells (g - (sLen + n))).size = (g - (sLen + n)) * i.size := by simp [Builtin.zeroCells, hzs]
                        have hall := CRel.append holdc hys
                        have hd0 := ext_del hr a.block
                        have hpush := ext_push (P := P) (w' := w.drew.alloc (.cells (((cr.toList.drop (f.d + a.off)).take (sLen * i.size) ++ ys').toArray ++ Builtin.zeroCells z.cells (g - (sLen + n))) bt)) hd0.rel hNn
                          (.cells ⟨(c.toList.drop a.off).take (sLen * i.size) ++ xs⟩ bt (cond (Nat.beq fr.1 fr.2) (0, 0) (0, (sLen + n) * i.size))) _ _ _
                          (orel_spare (P := P) (r := w.heap.size) (t := bt) (hall.mono (Emb.le_add hNn _)) (Builtin.zeroCells z.cells (g - (sLen + n)))) rfl rfl rfl rfl
                        refine ⟨_, _, _, hrun, ?_, hd0.trans hpush (fun k p q => by simp [AH.del] at q; omega)⟩
                        refine vrel_newSlice N h.next _ _ _ _ rfl hcap (.inr ⟨?_, by simp⟩)
                        simp only [hwd, hzl]
                        have hl2 : ((cr.toList.drop (f.d + a.off)).take (sLen * i.size) ++ ys').length = (sLen + n) * i.size := by
                          rw [List.length_append, ← hyl, hxn, Nat.add_mul]
                          simp
                          omega
                        rw [hl2, ← Nat.add_mul]
                        have : sLen + n + (g - (sLen + n)) = g := by omega
                        rw [this]
                        omega
                  · cases ha
  · cases ha

/-- Appended to a slice whose room is known not to be enough: a new row; the elder one stays. -/
def aappendX (P : Program) (t u : TypeId) (s x : Value) (h : AH) : Option (Value × AH) :=
  match s with
  | .func (.yield 4) ⟨[.slice (some a) sLen sCap]⟩ _ => match P.underlying t, P.underlying u with
    | some (.slice e), some d => match P.info? e with
      | none => none
      | some i => match i.zero with
        | none => none
        | some z => match appSrc i.size i.bytes z d x h with
          | none => none
          | some (n, xs) => cond (appK d && Nat.beq z.cells.size i.size && Nat.blt 0 i.size)
            (cond (Nat.blt sCap (sLen + n))
              (cond (Nat.ble (sLen + n) 9223372036854775807 && Nat.ble ((sLen + n) * i.bytes) 140737488355328)
                (match h.get a.block with
                | some (.cells c bt fr) => cond (Nat.beq (width P bt) i.size && Nat.beq bt e && Nat.ble (sLen * i.size) c.size)
                    (some (.slice (some ⟨h.next, 0, none⟩) (sLen + n) (sLen + n), h.push (.cells ⟨c.toList.take (sLen * i.size) ++ xs⟩ e fr))) none
                | _ => none) none) none) none
    | _, _ => none
  | _ => aappend P t u s x h
theorem aappendX_ok {P : Program} {N : Emb} {t u ty : TypeId} {s s' x x' v : Value} {h h' : AH} {w : World} (ha : aappendX P t u s x h = some (v, h')) (hs : VRel N s s') (hx : VRel N x x') (hr : HRel P N h w) (hf : Fresh N h h') :
    ∃ v' w' N', (Builtin.append_ #[t, u] ty #[s', x']).run P w = .ok v' w' ∧ VRel N' v v' ∧ Ext P N h w N' h' w' := by
  unfold aappendX at ha
  split at ha
  · rename_i a sLen sCap zs
    have hy := hs.inv_xs
    obtain ⟨b, n2, c2, f, h1, he, rfl⟩ := hy
    cases h1
    split at ha
    · rename_i e d ht hu
      split at ha
      · cases ha
      · rename_i i hi
        split at ha
        · cases ha
        · rename_i z hz
          split at ha
          · cases ha
          · rename_i n xs hsrc
            cases hc0 : (appK d && Nat.beq z.cells.size i.size && Nat.blt 0 i.size) with
            | false => rw [hc0] at ha; cases ha
            | true =>
              rw [hc0] at ha
              simp only [cond_true] at ha
              simp only [Bool.and_eq_true] at hc0
              have hd := hc0.1.1
              have hzs := Nat.eq_of_beq_eq_true hc0.1.2
              have hi0 : 0 < i.size := Nat.le_of_ble_eq_true hc0.2
              cases hgt0 : Nat.blt sCap (sLen + n) with
              | false => rw [hgt0] at ha; cases ha
              | true =>
                rw [hgt0] at ha
                simp only [cond_true] at ha
                have hgt : sCap < sLen + n := Nat.le_of_ble_eq_true hgt0
                have hwd : width P e = i.size := by simp [width, cellsOf, hi]
                cases hlim : (Nat.ble (sLen + n) 9223372036854775807 && Nat.ble ((sLen + n) * i.bytes) 140737488355328) with
                | false => rw [hlim] at ha; cases ha
                | true =>
                  rw [hlim] at ha
                  simp only [cond_true] at ha
                  simp only [Bool.and_eq_true] at hlim
                  have h63 := Nat.le_of_ble_eq_true hlim.1
                  have hbytes := Nat.le_of_ble_eq_true hlim.2
                  have hrd : HRel P N h w.drew := hr.of_heap rfl
                  obtain ⟨xs', hA, hxl, hxn, hxr⟩ := appSrc_ok hsrc hd hz hzs hi0 hx hr
                  obtain ⟨ys', hA2, hyl, _, hyr⟩ := appSrc_ok hsrc hd hz hzs hi0 hx hrd
                  have hys : CRel N ⟨xs⟩ ⟨ys'⟩ := ⟨by simpa using hyl, fun k a b p q => hyr k a b (by simpa using p) (by simpa using q)⟩
                  split at ha
                  · rename_i c bt fr hb
                    cases hcond : (Nat.beq (width P bt) i.size && Nat.beq bt e && Nat.ble (sLen * i.size) c.size) with
                    | false => rw [hcond] at ha; cases ha
                    | true =>
                      rw [hcond] at ha
                      cases ha
                      simp only [Bool.and_eq_true] at hcond
                      obtain ⟨⟨q2, q3⟩, q4⟩ := hcond
                      have hw1 := Nat.eq_of_beq_eq_true q2
                      have hbt := Nat.eq_of_beq_eq_true q3
                      have hle := Nat.le_of_ble_eq_true q4
                      subst hbt
                      obtain ⟨cr, fr', hw, hz1, hd1, hs1, hs2, hrow, hf1, hf2, hf3⟩ := hr.row hb he
                      have hNn : N h.next = none := hf h.next (Nat.le_refl _) (by simp [AH.push])
                      have holdc := RowRel.dropTake (N := N) (d := f.d) (c := c) (c' := cr) (off := 0) (n := sLen * i.size) hrow (by omega) (by omega)
                      rw [Nat.add_zero, List.drop_zero] at holdc
                      have hw2 : w.drew.heap[f.r]? = some (.cells cr bt fr') := hw
                      have holdr : (Builtin.firstCells i.size sLen (.slice (some ⟨f.r, f.d, none⟩) sLen sCap)).run P w.drew = .ok ⟨(cr.toList.drop f.d).take (sLen * i.size)⟩ w.drew := by
                        simp [Builtin.firstCells, run_loadRow hw2 f.d (sLen * i.size) (by omega)]
                      have hrun := run_append_out (P := P) w t u ty bt d i z ht hu hi hz (some ⟨f.r, f.d, none⟩) sLen sCap x' n ys' _ hA hA2 holdr (by omega) h63 hbytes
                      have hcap := le_cut w (sLen + n) sCap bt
                      generalize hg : grownCap w (sLen + n) sCap bt = g at hrun hcap
                      have hzl : (Builtin.zeroCells z.cells (g - (sLen + n))).size = (g - (sLen + n)) * i.size := by simp [Builtin.zeroCells, hzs]
                      have hall := CRel.append holdc hys
                      have hpush := ext_push (P := P) (w' := w.drew.alloc (.cells (((cr.toList.drop f.d).take (sLen * i.size) ++ ys').toArray ++ Builtin.zeroCells z.cells (g - (sLen + n))) bt)) hr hNn
                        (.cells ⟨c.toList.take (sLen * i.size) ++ xs⟩ bt fr) _ _ _
                        (orel_spare (P := P) (r := w.heap.size) (t := bt) (hall.mono (Emb.le_add hNn _)) (Builtin.zeroCells z.cells (g - (sLen + n)))) rfl rfl rfl rfl
                      refine ⟨_, _, _, hrun, ?_, hpush⟩
                      refine vrel_newSlice N h.next _ _ _ _ rfl hcap (.inr ⟨?_, by simp⟩)
                      simp only [hwd, hzl]
                      have hl2 : ((cr.toList.drop f.d).take (sLen * i.size) ++ ys').length = (sLen + n) * i.size := by
                        rw [List.length_append, ← hyl, hxn, Nat.add_mul]
                        simp
                        omega
                      rw [hl2, ← Nat.add_mul]
                      have : sLen + n + (g - (sLen + n)) = g := by omega
                      rw [this]
                      omega
                  · cases ha
    · cases ha
  · exact aappend_ok ha hs hx hr hf

/-- slices.overlaps, by its text's name. -/
def overF (fn : Func) : Bool := fn.body.isNone && fn.origin == "slices.overlaps" && !(fn.name == "runtime.NumGoroutine") && (Extern.allNextRows.lookup fn.name).isNone && (Extern.allGenericRows.lookup fn.name).isNone && (Extern.allTypedRows.lookup fn.name).isNone && (Extern.allRows.lookup fn.name).isNone &&
  (match fn.params, fn.resultTypes with
  | ⟨[t, u]⟩, ⟨[_]⟩ => Nat.beq t u
  | _, _ => false)
theorem over_rows : Extern.allNextRows.lookup "slices.overlaps" = none ∧ Extern.allGenericRows.lookup "slices.overlaps" = none ∧ Extern.allTypedRows.lookup "slices.overlaps" = some Extern.SlicesOverlaps.overlaps := ⟨by rfl, by rfl, by rfl⟩
theorem overF_run {P : Program} {g : FuncId} {fn : Func} (hf : P.funcs[g]? = some fn) (ho : overF fn = true) (args : Array Value) (w : World) :
    (callFunc g args).run P w = ((Extern.SlicesOverlaps.overlaps fn.params fn.resultTypes args).run P w).andThen fun v w' => .ok (.value v) w' := by
  unfold overF at ho
  simp only [Bool.and_eq_true, Bool.not_eq_true', beq_iff_eq, Option.isNone_iff_eq_none] at ho
  obtain ⟨⟨⟨⟨⟨⟨⟨h1, h2⟩, h3⟩, h4⟩, h5⟩, h6⟩, h7⟩, _⟩ := ho
  refine run_callFunc_extern hf (by simpa using h3) (by simp [h1]) ?_ ?_ args w
  · simp [Extern.findNext, h4, h2, over_rows.1]
  · simp [Extern.find, h5, h6, h7, h2, over_rows.2.1, over_rows.2.2]

/-- Two slices in different blocks do not overlap. -/
def aover (P : Program) (f x y : Value) (h : AH) : Option (Value × AH) :=
  match f, x, y with
  | .func (.func g) ⟨[]⟩ ⟨[]⟩, .slice (some a) _ _, .slice (some b) _ _ => match P.funcs[g]?, h.get a.block, h.get b.block with
    | some fn, some (.cells _ _ fr1), some (.cells c2 _ _) => match fn.params with
      | ⟨[t, _]⟩ => match P.underlying t with
        | some (.slice e) => cond (overF fn && (cellsOf P e).isSome && !Nat.beq a.block b.block && Nat.beq fr1.1 fr1.2 && Nat.blt 0 c2.size) (some (.bool false, h)) none
        | _ => none
      | _ => none
    | _, _, _ => none
  | _, _, _ => none
theorem aover_ok {P : Program} {N : Emb} {f f' x x' y y' v : Value} {h h' : AH} {w : World} (ha : aover P f x y h = some (v, h')) (hf : VRel N f f') (hx : VRel N x x') (hy : VRel N y y') (hr : HRel P N h w) :
    h' = h ∧ v = .bool false ∧ ∃ g, f' = .func (.func g) #[] #[] ∧ (callFunc g #[x', y']).run P w = .ok (.value (.bool false)) w := by
  unfold aover at ha
  split at ha
  · rename_i g a la ca b lb cb
    split at ha
    · rename_i fn c1 t1 fr1 c2 t2 fr2 hfn h1 h2
      split at ha
      · rename_i t u hp
        split at ha
        · rename_i e hu
          cases hc : (overF fn && (cellsOf P e).isSome && !Nat.beq a.block b.block && Nat.beq fr1.1 fr1.2 && Nat.blt 0 c2.size) with
          | false => rw [hc] at ha; cases ha
          | true =>
            rw [hc] at ha
            cases ha
            simp only [Bool.and_eq_true, Bool.not_eq_true'] at hc
            obtain ⟨⟨⟨⟨k1, k2⟩, k3⟩, k4⟩, k5⟩ := hc
            obtain ⟨s, hs⟩ := Option.isSome_iff_exists.1 k2
            obtain ⟨ea, oa, ca', _, hea, _, _, _, ex⟩ := hx.inv_slice
            obtain ⟨eb, ob, cb', _, heb, _, _, _, ey⟩ := hy.inv_slice
            obtain ⟨r1, fr1', w1, z1, _, _, _, _, q1, _⟩ := hr.row h1 hea
            obtain ⟨r2, fr2', w2, z2, d2, _, _, _, _, _⟩ := hr.row h2 heb
            have hq := q1 (Nat.eq_of_beq_eq_true k4)
            have hne : ea.r ≠ eb.r := fun q => by
              have := hr.inj a.block b.block _ _ ea eb h1 h2 hea heb q
              rw [this, Nat.beq_refl] at k3
              cases k3
            have hfz : ∀ o, w.frozen? ⟨ea.r, o, none⟩ = false := fun o => by
              unfold World.frozen?
              rw [w1]
              obtain ⟨p1, p2⟩ := fr1'
              simp only at hq
              subst hq
              simp
            refine ⟨rfl, rfl, g, flat_eq hf (by simp [flat, flat2, flat1]), ?_⟩
            rw [overF_run hfn k1, hp, ex, ey]
            have k5 : 0 < c2.size := Nat.le_of_ble_eq_true k5
            have k6 := k1
            unfold overF at k6
            rw [Bool.and_eq_true] at k6
            have k6 := k6.2
            split at k6
            · rename_i _ _ p1 p2 r p3 p4
              rw [hp] at p3
              cases p3
              have := Nat.eq_of_beq_eq_true k6
              subst this
              rw [p4, Lib.run_overlaps_apart (P := P) w t r e hu s (fun w => run_sizeOf hs w) ⟨ea.r, oa, none⟩ ⟨eb.r, ob, none⟩ la ca' lb cb' hne t1 t2 r1.size r2.size (by simp [World.shape?, w1]) (by simp [World.shape?, w2]) (by omega) (hfz _) (hfz _)]
              rfl
            · cases k6
        · cases ha
      · cases ha
    · cases ha
  · cases ha

theorem cond_someJ {α : Type} {b : Bool} {x : Option α} {v : α} (h : (cond b x none) = some v) : b = true ∧ x = some v := by
  cases b
  · cases h
  · exact ⟨rfl, h⟩
theorem cond_caseJ {α : Type} {b : Bool} {x y : Option α} {v : α} (h : (cond b x y) = some v) : (b = true ∧ x = some v) ∨ (b = false ∧ y = some v) := by
  cases b
  · exact .inr ⟨rfl, h⟩
  · exact .inl ⟨rfl, h⟩


/-- Keys that are held against each other at once. -/
def keyKind (d : TypeDesc) (k : Value) : Bool :=
  match d, k with
  | .int j, .int j' _ => decide (j = j')
  | .string, .string _ => true
  | .bool, .bool _ => true
  | _, _ => false

def amakeMap (h : AH) : Value × AH := (.map (some h.next), h.push (.map #[] 0))

theorem amakeMap_ok {P : Program} {N : Emb} {t : TypeId} {h : AH} {w : World} (hr : HRel P N h w) (hf : Fresh N h (amakeMap h).2) :
    ∃ v' w' N', (Instr.makeMap t none).run P w = .ok v' w' ∧ VRel N' (amakeMap h).1 v' ∧ Ext P N h w N' (amakeMap h).2 w' := by
  refine ⟨.map (some w.heap.size), { w with heap := w.heap.push (.map #[] 0) }, N.add h.next ⟨w.heap.size, 0, 0, 0⟩, ?_, .map h.next ⟨w.heap.size, 0, 0, 0⟩ (Emb.add_self _ _ _), ext_push hr (fresh_push hf) _ (.map #[] 0) 0 0 ⟨#[], rfl, rfl, fun i x x' a => by simp at a⟩ rfl rfl rfl rfl⟩
  simp [Instr.makeMap, newObj, Sem.run]

theorem sameNow_rel {N : Emb} {d : TypeDesc} {k e e' : Value} {b : Bool} (h : Instr.sameNow d k e = some b) (hv : VRel N e e') : e' = e := by
  unfold Instr.sameNow at h
  split at h
  · exact hv.inv_int
  · exact hv.inv_string
  · exact hv.inv_bool
  · cases h

def MRel (N : Emb) (es es' : List MapEntry) : Prop := es.length = es'.length ∧ ∀ (i : Nat) x x', es[i]? = some x → es'[i]? = some x' → VRel N x.key x'.key ∧ VRel N x.val x'.val ∧ x'.born = x.born

theorem findNow_rel {N : Emb} {d : TypeDesc} {k : Value} : ∀ (es es' : List MapEntry) (i : Nat) (r : Option (Nat × Value)), MRel N es es' → Instr.findNow d k es i = some r →
    (r = none ∧ Instr.findNow d k es' i = some none) ∨ ∃ j x x', r = some (i + j, x.val) ∧ es[j]? = some x ∧ es'[j]? = some x' ∧ Instr.findNow d k es' i = some (some (i + j, x'.val)) ∧ VRel N x.val x'.val ∧ x'.key = x.key ∧ Instr.sameNow d k x.key = some true
  | [], es', i, r, hm, h => by
    have : es' = [] := by have := hm.1; simp at this; exact List.length_eq_zero_iff.1 this.symm
    subst this
    simp [Instr.findNow] at h
    exact .inl ⟨h.symm, rfl⟩
  | e :: es, [], i, r, hm, h => by have := hm.1; simp at this
  | e :: es, e' :: es', i, r, hm, h => by
    obtain ⟨hk, hv, _⟩ := hm.2 0 e e' rfl rfl
    have hm' : MRel N es es' := ⟨by have := hm.1; simpa using this, fun j x x' a b => hm.2 (j + 1) x x' (by simpa using a) (by simpa using b)⟩
    unfold Instr.findNow at h ⊢
    cases hs : Instr.sameNow d k e.key with
    | none => rw [hs] at h; cases h
    | some b =>
      have hek := sameNow_rel hs hk
      rw [hek, hs]
      rw [hs] at h
      cases b with
      | true =>
        simp only [Option.some.injEq] at h
        exact .inr ⟨0, e, e', by simp [← h], rfl, rfl, rfl, hv, hek, hs⟩
      | false =>
        simp only at h
        rcases findNow_rel es es' (i + 1) r hm' h with ⟨q1, q2⟩ | ⟨j, x, x', q1, q2, q3, q4, q5, q6, q7⟩
        · exact .inl ⟨q1, q2⟩
        · exact .inr ⟨j + 1, x, x', by rw [q1, show i + 1 + j = i + (j + 1) by omega], by simpa using q2, by simpa using q3, by rw [q4, show i + 1 + j = i + (j + 1) by omega], q5, q6, q7⟩

theorem run_checkKey {P : Program} {b : Bool} {n : Nat} {t : TypeId} {d : TypeDesc} {k : Value} (hu : P.underlying t = some d) (hk : keyKind d k = true) (w : World) : (Instr.checkKey b (n + 1) t k).run P w = .ok () w := by
  unfold keyKind at hk
  split at hk
  · simp [Instr.checkKey, run_underlying hu]
  · simp [Instr.checkKey, run_underlying hu]
  · simp [Instr.checkKey, run_underlying hu]
  · cases hk

theorem sameBits_of {d : TypeDesc} {k e : Value} {n : Nat} (h : Instr.sameNow d k e = some true) : Instr.sameBits n e k = true := by
  unfold Instr.sameNow at h
  split at h
  · split at h
    · rename_i hk
      simp at h
      subst hk
      simp [Instr.sameBits, h]
    · cases h
  · rename_i a b
    have h : (a == b) = true := by simpa using h
    have h2 : (a.data == b.data) = true := h
    have h3 := eq_of_beq h2
    have h4 : a = b := by cases a; cases b; simp only at h3; rw [h3]
    subst h4
    simpa [Instr.sameBits] using h
  · simp at h; simp [Instr.sameBits, h]
  · cases h

def amapUpdate (P : Program) (t : TypeId) (m k v : Value) (h : AH) : Option AH :=
  match P.underlying t, m with
  | some (.map kt _), .map (some r) => match P.underlying kt, h.get r with
    | some d, some (.map es clock) => cond (keyKind d k) (match Instr.findNow d k es.toList 0 with
      | some (some (i, _)) => some (h.set r (.map (es.modify i fun e => { e with key := k, val := v }) clock))
      | some none => some (h.set r (.map (es.push { key := k, val := v, born := clock }) (clock + 1)))
      | none => none) none
    | _, _ => none
  | _, _ => none

theorem keyKind_rel {N : Emb} {d : TypeDesc} {k k' : Value} (hk : keyKind d k = true) (hv : VRel N k k') : k' = k := by
  unfold keyKind at hk
  split at hk
  · exact hv.inv_int
  · exact hv.inv_string
  · exact hv.inv_bool
  · cases hk

theorem amapUpdate_ok {P : Program} {N : Emb} {t : TypeId} {m m' k k' v v' : Value} {h h' : AH} {w : World} (ha : amapUpdate P t m k v h = some h') (hm : VRel N m m') (hk : VRel N k k') (hv : VRel N v v') (hr : HRel P N h w) :
    ∃ w', (Instr.mapUpdate t m' k' v').run P w = .ok () w' ∧ Ext P N h w N h' w' := by
  unfold amapUpdate at ha
  split at ha
  · rename_i kt et r hu
    obtain ⟨e, he, rfl⟩ := hm.inv_map
    split at ha
    · rename_i d es clock hd hg
      obtain ⟨hkk, ha⟩ := cond_someJ ha
      obtain rfl := keyKind_rel hkk hk
      obtain ⟨f, o', h1, h2, es', rfl, h4, h5⟩ := hr.here r _ hg
      rw [he] at h1
      cases h1
      have hlt := lt_of_some h2
      have hM : MRel N es.toList es'.toList := ⟨by simpa using h4, fun i x x' a b => h5 i x x' (by simpa using a) (by simpa using b)⟩
      have fin : ∀ (o o2 : Obj), ORel P N e o o2 → ∀ w', w' = { w with heap := w.heap.setIfInBounds e.r o2 } → Ext P N h w N (h.set r o) w' := by
        intro o o2 ho w' hw'
        subst hw'
        refine ext_set hr hg he (o' := o2) ho (by simp) ?_ ?_ rfl rfl rfl
        · simp [hlt]
        · intro j hj; simp only; rw [Array.getElem?_setIfInBounds_ne (fun q => hj q.symm)]
      split at ha
      · rename_i i u hfn
        cases ha
        rcases findNow_rel es.toList es'.toList 0 _ hM hfn with ⟨q1, _⟩ | ⟨j, x, x', q1, q2, q3, q4, q5, q6, q7⟩
        · cases q1
        · rw [Nat.zero_add] at q1 q4
          cases q1
          refine ⟨{ w with heap := w.heap.setIfInBounds e.r (.map (es'.modify i fun y => { y with key := k', val := v' }) clock) }, ?_, fin _ _ ?_ _ rfl⟩
          · have hq3 : es'[i]? = some x' := by simpa using q3
            have hsb : Instr.sameBits 10000 x'.key k' = true := by rw [q6]; exact sameBits_of q7
            simp only [Instr.mapUpdate, Sem.run_bind, run_underlying hu, getObj, Sem.run, h2, Result.andThen, run_checkKey hd hkk, Instr.findKey, run_underlying hd, q4, Sem.run_pure, hq3, Option.map_some, Option.getD_some, Instr.keyThatStays, hsb, if_true, setObj]
          · refine ⟨_, rfl, by simp [h4], fun n y y' a b => ?_⟩
            by_cases hij : i = n
            · subst hij
              have a2 : es[i]? = some x := by simpa using q2
              have b2 : es'[i]? = some x' := by simpa using q3
              rw [Array.getElem?_modify, if_pos rfl, a2] at a
              rw [Array.getElem?_modify, if_pos rfl, b2] at b
              simp only [Option.map_some, Option.some.injEq] at a b
              subst a; subst b
              exact ⟨hk, hv, (h5 i x x' a2 b2).2.2⟩
            · rw [Array.getElem?_modify, if_neg hij] at a b
              exact h5 n y y' a b
      · rename_i hfn
        cases ha
        rcases findNow_rel es.toList es'.toList 0 _ hM hfn with ⟨_, q2⟩ | ⟨j, x, x', q1, _⟩
        · refine ⟨{ w with heap := w.heap.setIfInBounds e.r (.map (es'.push { key := k', val := v', born := clock }) (clock + 1)) }, ?_, fin _ _ ?_ _ rfl⟩
          · simp only [Instr.mapUpdate, Sem.run_bind, run_underlying hu, getObj, Sem.run, h2, Result.andThen, run_checkKey hd hkk, Instr.findKey, run_underlying hd, q2, Sem.run_pure, setObj]
          · refine ⟨_, rfl, by simp [h4], fun i y y' a b => ?_⟩
            rcases Nat.lt_or_ge i es.size with hi | hi
            · rw [Array.getElem?_push_lt hi] at a
              rw [Array.getElem?_push_lt (by omega)] at b
              exact h5 i y y' (by rw [← a]; simp [hi]) (by rw [← b]; simp)
            · have hie : i = es.size := by
                rcases Nat.lt_or_ge es.size i with z | z
                · rw [Array.getElem?_eq_none (by simp; omega)] at a; cases a
                · omega
              subst hie
              rw [Array.getElem?_push_size] at a
              rw [h4, Array.getElem?_push_size] at b
              cases a; cases b
              exact ⟨hk, hv, rfl⟩
        · cases q1
      · cases ha
    · cases ha
  · cases ha

def alookup (P : Program) (t : TypeId) (x k : Value) (ok : Bool) (h : AH) : Option Value :=
  match P.underlying t with
  | some (.map kt et) => match P.underlying kt, zeroFlat P et, (match x with
      | .map none => some #[]
      | .map (some r) => match h.get r with
        | some (.map es _) => some es
        | _ => none
      | _ => none : Option (Array MapEntry)) with
    | some d, some z, some es => cond (keyKind d k) (match Instr.findNow d k es.toList 0 with
      | some (some (_, v)) => some (cond ok (.tuple ⟨[v, .bool true]⟩) v)
      | some none => some (cond ok (.tuple ⟨[z, .bool false]⟩) z)
      | none => none) none
    | _, _, _ => none
  | _ => none

theorem pair_rel {N : Emb} {v v' : Value} (h : VRel N v v') (b : Bool) : VRel N (.tuple ⟨[v, .bool b]⟩) (.tuple #[v', .bool b]) := by
  refine .tuple _ _ rfl fun i x x' p q => ?_
  match i, p, q with
  | 0, p, q => simp at p q; subst p; subst q; exact h
  | 1, p, q => simp at p q; subst p; subst q; exact .bool b
  | i + 2, p, q => simp at p

theorem alookup_ok {P : Program} {N : Emb} {t : TypeId} {x x' k k' v : Value} {ok : Bool} {h : AH} {w : World} (ha : alookup P t x k ok h = some v) (hx : VRel N x x') (hk : VRel N k k') (hr : HRel P N h w) :
    ∃ v', (Instr.lookup t x' k' ok).run P w = .ok v' w ∧ VRel N v v' := by
  unfold alookup at ha
  split at ha
  · rename_i kt et hu
    split at ha
    · rename_i d z es hd hz hes
      obtain ⟨hkk, ha⟩ := cond_someJ ha
      obtain rfl := keyKind_rel hkk hk
      obtain ⟨zf, zr⟩ := zeroFlat_ok hz
      have zrel : VRel N z z := flat2_refl N zf
      -- the real entries
      obtain ⟨es', hM, hx'⟩ : ∃ es' : Array MapEntry, MRel N es.toList es'.toList ∧ ((x' = .map none ∧ es' = #[]) ∨ ∃ r c, x' = .map (some r) ∧ w.heap[r]? = some (.map es' c)) := by
        split at hes
        · cases hes
          exact ⟨#[], ⟨rfl, fun i x x' a => by simp at a⟩, .inl ⟨by cases hx; rfl, rfl⟩⟩
        · rename_i r
          obtain ⟨e, he, rfl⟩ := hx.inv_map
          split at hes
          · rename_i es0 clock hg
            cases hes
            obtain ⟨f, o', h1, h2, es', rfl, h4, h5⟩ := hr.here r _ hg
            rw [he] at h1
            cases h1
            exact ⟨es', ⟨by simpa using h4, fun i x x' a b => h5 i x x' (by simpa using a) (by simpa using b)⟩, .inr ⟨e.r, clock, rfl, h2⟩⟩
          · cases hes
        · cases hes
      have key : ∀ (u : Value) (b : Bool) (u' : Value), VRel N u u' → v = cond ok (.tuple ⟨[u, .bool b]⟩) u → VRel N v (if ok = true then .tuple #[u', .bool b] else u') := by
        intro u b u' hu' hv
        subst hv
        cases ok with
        | true => exact pair_rel hu' b
        | false => exact hu'
      split at ha
      · rename_i i u hfn
        rcases findNow_rel es.toList es'.toList 0 _ hM hfn with ⟨q1, _⟩ | ⟨j, y, y', q1, q2, q3, q4, q5, q6, q7⟩
        · cases q1
        · rw [Nat.zero_add] at q1 q4
          cases q1
          cases ha
          refine ⟨_, ?_, key _ true y'.val q5 rfl⟩
          rcases hx' with ⟨rfl, rfl⟩ | ⟨r, c, rfl, hh⟩
          · simp at q3
          · simp [Instr.lookup, run_underlying hu, getObj, Sem.run, hh, run_checkKey hd hkk, Instr.findKey, run_underlying hd, q4]
      · rename_i hfn
        rcases findNow_rel es.toList es'.toList 0 _ hM hfn with ⟨_, q2⟩ | ⟨j, y, y', q1, _⟩
        · cases ha
          refine ⟨_, ?_, key _ false z zrel rfl⟩
          rcases hx' with ⟨rfl, rfl⟩ | ⟨r, c, rfl, hh⟩
          · simp [Instr.lookup, run_underlying hu, run_checkKey hd hkk, Instr.findKey, run_underlying hd, Instr.findNow, zr]
          · simp [Instr.lookup, run_underlying hu, getObj, Sem.run, hh, run_checkKey hd hkk, Instr.findKey, run_underlying hd, q2, zr]
        · cases q1
      · cases ha
    · cases ha
  · cases ha


def aclear (P : Program) (t : TypeId) (x : Value) (h : AH) : Option AH :=
  match P.underlying t, x with
  | some (.slice _), .slice (some _) 0 _ => some h
  | some (.slice elem), .slice (some a) (n + 1) _ => match zeroFlat P elem with
    | some z => storeA h a (Builtin.zeroCells z.cells (n + 1)).toList
    | none => none
  | _, _ => none

theorem aclear_ok {P : Program} {N : Emb} {t ty : TypeId} {x x' : Value} {h h' : AH} {w : World} (ha : aclear P t x h = some h') (hx : VRel N x x') (hr : HRel P N h w) :
    ∃ w', (Builtin.clear_ #[t] ty #[x']).run P w = .ok (.tuple #[]) w' ∧ Ext P N h w N h' w' := by
  unfold aclear at ha
  split at ha
  · rename_i e0 a c hu
    cases ha
    obtain ⟨e, o', c', _, _, _, _, _, rfl⟩ := hx.inv_slice
    exact ⟨w, by simp [Builtin.clear_, run_underlying hu], Ext.refl hr⟩
  · rename_i elem a n c hu
    obtain ⟨e, o', c', hsp, he, _, _, ho, rfl⟩ := hx.inv_slice
    split at ha
    · rename_i z hz
      obtain ⟨zf, zr⟩ := zeroFlat_ok hz
      have hc := (flat2_refl N zf).cells (flat2_notAny zf)
      have ho2 : o' = e.d + a.off := ho.resolve_left (by omega)
      have hzz : ∀ (i : Nat) v v', (Builtin.zeroCells z.cells (n + 1)).toList[i]? = some v → (Builtin.zeroCells z.cells (n + 1)).toList[i]? = some v' → VRel N v v' := by
        intro i v v' p q
        rw [p] at q
        cases q
        have hm : v ∈ (Builtin.zeroCells z.cells (n + 1)).toList := List.mem_of_getElem? p
        have hm2 : v ∈ z.cells := by
          simp only [Builtin.zeroCells] at hm
          simp at hm
          obtain ⟨i, hi, hm⟩ := hm
          have hpos : 0 < z.cells.size := by
            rcases Nat.eq_zero_or_pos z.cells.size with q | q
            · rw [q] at hi; simp at hi
            · exact q
          have hlt := Nat.mod_lt i hpos
          rw [← hm, getElem!_pos z.cells (i % z.cells.size) hlt]
          exact Array.getElem_mem hlt
        obtain ⟨k, hk, rfl⟩ := Array.mem_iff_getElem.1 hm2
        exact hc.2 k _ _ (by simp [hk]) (by simp [hk])
      obtain ⟨w', h1, h2⟩ := storeA_ok ha he rfl hzz hr
      refine ⟨w', ?_, h2⟩
      obtain ⟨ab, ao, as⟩ := a
      simp only at hsp h1 ho2
      subst hsp ho2
      simp [Builtin.clear_, run_underlying hu, zr, h1]
    · cases ha
  · cases ha

/-- Copying what fits. -/
def acopy (P : Program) (t : TypeId) (d s : Value) (h : AH) : Option (Value × AH) :=
  match P.underlying t, d with
  | some (.slice elem), .slice (some a) n _ => match P.info? elem with
    | some i => match srcCells i.size s h with
      | some (m, xs) => cond (Nat.ble m n) (match storeA h a xs with
        | some h' => some (goInt m, h')
        | none => none) (match s with
        | .slice (some b) _ k => match srcCells i.size (.slice (some b) n k) h with
          | some (n2, ys) => match storeA h a ys with
            | some h' => some (goInt n2, h')
            | none => none
          | none => none
        | _ => none)
      | none => none
    | none => none
  | _, _ => none

theorem srcCells_len {size m0 k m : Nat} {b : Addr} {h : AH} {xs : List Value} (hs : srcCells size (.slice (some b) m0 k) h = some (m, xs)) : m = m0 := by
  cases m0 with
  | zero => simp only [srcCells, Option.some.injEq, Prod.mk.injEq] at hs; exact hs.1.symm
  | succ j =>
    simp only [srcCells] at hs
    split at hs
    · obtain ⟨_, q⟩ := cond_someJ hs
      cases q
      rfl
    · cases hs
theorem VRel.shorter {N : Emb} {a : Addr} {n m c : Nat} {v' : Value} (h : VRel N (.slice (some a) m c) v') (hm : n ≤ m) : ∃ b c', v' = .slice (some b) m c' ∧ VRel N (.slice (some a) n c) (.slice (some b) n c') := by
  obtain ⟨e, o', c', hsp, he, hc, hz, ho, rfl⟩ := h.inv_slice
  obtain ⟨ab, ao, as⟩ := a
  simp only at hsp he ho
  subst hsp
  refine ⟨_, _, rfl, .slice ab ao n c e o' c' he hc hz ?_⟩
  rcases ho with ⟨q1, q2, q3⟩ | q
  · exact .inl ⟨by omega, q2, q3⟩
  · exact .inr q

theorem acopy_ok {P : Program} {N : Emb} {t u ty : TypeId} {d d' s s' v : Value} {h h' : AH} {w : World} (ha : acopy P t d s h = some (v, h')) (hd : VRel N d d') (hs : VRel N s s') (hr : HRel P N h w) :
    ∃ w', (Builtin.copy_ #[t, u] ty #[d', s']).run P w = .ok v w' ∧ flat v = true ∧ Ext P N h w N h' w' := by
  unfold acopy at ha
  split at ha
  · rename_i elem a n c hu
    split at ha
    · rename_i i hi
      split at ha
      · rename_i m xs hsrc
        rcases cond_caseJ ha with ⟨hm, ha⟩ | ⟨hm, ha⟩
        rotate_left
        · have hlt : n < m := by
            rcases Nat.lt_or_ge n m with q | q
            · exact q
            · rw [Nat.ble_eq_true_of_le q] at hm; cases hm
          clear hm
          obtain ⟨xs0, k01, _⟩ := srcCells_ok hsrc hs hr
          split at ha
          · rename_i b m0 k _
            split at ha
            · rename_i n2 ys hsrc2
              split at ha
              · rename_i h1 hst
                cases ha
                obtain ⟨b', c', rfl, hs2⟩ := hs.shorter (n := n) (by
                  have q : m = m0 := srcCells_len hsrc
                  omega)
                obtain ⟨xs', k1, k2, k3, k4, k5⟩ := srcCells_ok hsrc2 hs2 hr
                have hn2 : n2 = n := by
                  have := k1
                  simp [Builtin.lenOf] at this
                  exact this.symm
                subst hn2
                obtain ⟨e, o', c'', hsp, he, _, _, ho, rfl⟩ := hd.inv_slice
                obtain ⟨w', q1, q2⟩ := storeA_ok hst he k3 k5 hr
                refine ⟨w', ?_, rfl, q2⟩
                have hm0 : m0 = m := by
                  have := k01
                  simp [Builtin.lenOf] at this
                  exact this
                have hmin : Nat.min m0 n2 = n2 := Nat.min_eq_right (by omega)
                have k2' : (Builtin.firstCells i.size n2 (.slice (some b') m0 c')).run P w = .ok ⟨xs'⟩ w := by
                  have := k2
                  simpa [Builtin.firstCells] using this
                have hso : (storeCells ⟨e.r, o', none⟩ xs').run P w = .ok () w' := by
                  rcases Nat.eq_zero_or_pos n2 with h0 | h0
                  · subst h0
                    have hx : xs' = [] := by
                      have : xs'.length = 0 := by rw [← k3, k4]; simp
                      exact List.eq_nil_of_length_eq_zero this
                    subst hx
                    have hx2 : ys = [] := by
                      have : ys.length = 0 := by rw [k4]; simp
                      exact List.eq_nil_of_length_eq_zero this
                    subst hx2
                    have e1 : w' = w := by
                      have := q1
                      simp [storeCells] at this
                      exact this.symm
                    rw [e1]
                    simp [storeCells]
                  · have ho2 : o' = e.d + a.off := ho.resolve_left (by omega)
                    obtain ⟨ab, ao, as⟩ := a
                    simp only at hsp ho2 q1
                    subst hsp ho2
                    exact q1
                have k0 : (Builtin.lenOf (.slice (some b') m0 c')).run P w = .ok m0 w := by simp [Builtin.lenOf]
                simp [Builtin.copy_, run_underlying hu, sizeOf, typeInfo, hi, k0, hmin, k2', hso]
              · cases ha
            · cases ha
          · cases ha
        have hm := Nat.le_of_ble_eq_true hm
        split at ha
        · rename_i h1 hst
          cases ha
          obtain ⟨xs', k1, k2, k3, k4, k5⟩ := srcCells_ok hsrc hs hr
          obtain ⟨e, o', c', hsp, he, _, _, ho, rfl⟩ := hd.inv_slice
          obtain ⟨w', q1, q2⟩ := storeA_ok hst he k3 k5 hr
          refine ⟨w', ?_, rfl, q2⟩
          have hmin : Nat.min m n = m := Nat.min_eq_left hm
          have hso : (storeCells ⟨e.r, o', none⟩ xs').run P w = .ok () w' := by
            rcases Nat.eq_zero_or_pos m with h0 | h0
            · subst h0
              have hx : xs' = [] := by
                have : xs'.length = 0 := by rw [← k3, k4]; simp
                exact List.eq_nil_of_length_eq_zero this
              subst hx
              have hx2 : xs = [] := by
                have : xs.length = 0 := by rw [k4]; simp
                exact List.eq_nil_of_length_eq_zero this
              subst hx2
              have e1 : w' = w := by
                have := q1
                simp [storeCells] at this
                exact this.symm
              rw [e1]
              simp [storeCells]
            · have ho2 : o' = e.d + a.off := ho.resolve_left (by omega)
              obtain ⟨ab, ao, as⟩ := a
              simp only at hsp ho2 q1
              subst hsp ho2
              exact q1
          simp [Builtin.copy_, run_underlying hu, sizeOf, typeInfo, hi, k1, hmin, k2, hso]
        · cases ha
      · cases ha
    · cases ha
  · cases ha

/-- How many entries a map has. -/
def amapLen (P : Program) (t : TypeId) (x : Value) (h : AH) : Option Value :=
  match P.underlying t, x with
  | some (.map _ _), .map (some r) => match h.get r with
    | some (.map es _) => some (goInt es.size)
    | _ => none
  | _, _ => none

theorem amapLen_ok {P : Program} {N : Emb} {t ty : TypeId} {x x' v : Value} {h : AH} {w : World} (ha : amapLen P t x h = some v) (hx : VRel N x x') (hr : HRel P N h w) :
    ∃ v', (Builtin.len_ #[t] ty #[x']).run P w = .ok v' w ∧ VRel N v v' := by
  unfold amapLen at ha
  split at ha
  · rename_i kt et r hu
    split at ha
    · rename_i es clock hg
      cases ha
      obtain ⟨e, o', h1, h2, h3⟩ := hr.here r _ hg
      obtain ⟨es', rfl, h4, _⟩ := h3
      have e2 : x' = .map (some e.r) := by
        cases hx with
        | map _ e' h => rw [h1] at h; cases h; rfl
      subst e2
      refine ⟨goInt es.size, ?_, .int _ _⟩
      simp [Builtin.len_, run_underlying hu, getObj, Sem.run, h2, h4]
    · cases ha
  · cases ha

end Go.Ev
