/-
  The abstract evaluator, part EvB: it runs code on a private heap; what it says holds of every world.
-/
import Derived.Test.YtklednomnpghcaaGreatDoorEvA
import Derived.CallsIn
import Derived.OrdersIn
import Derived.ControlIn
import Derived.LoopNIn
import Derived.Scope
import Derived.LoopN
import Derived.Below
/-
  The abstract evaluator: operations that touch memory, and the evaluator itself (EvK).
-/
namespace Go.Ev

/-- Operations that touch memory, but for calls. -/
def aheap (P : Program) (ρ : Operand → Value) (o : Oper) (h : AH) : Option (Value × AH) :=
  match o.op with
  | .load t x => match aload P t (ρ x) h with
    | some v => some (v, h)
    | none => none
  | .store t x v => match astore P t (ρ x) (ρ v) h with
    | some h' => some (undef, h')
    | none => none
  | .alloc t => aalloc P t h
  | .box t x => cond (notAny (ρ x)) (some (abox t (ρ x) h)) none
  | .buildSlice t len parts => abuildSlice P t len (parts.toList.map fun p => (p.1, ρ p.2)) h
  | .makeSlice t l c => amakeSlice P t (ρ l) (ρ c) h
  | .slice t x lo hi none => match asliceX P t (ρ x) (lo.map ρ) (hi.map ρ) h with
    | some v => some (v, h)
    | none => none
  | .convert src dst x => match ρ x with
    | .slice .. => match abytesToString P src dst (ρ x) h with
      | some v => some (v, h)
      | none => none
    | .string _ => astringToBytes P src dst (ρ x) h
    | .pointer _ => match aunsafePointer P src dst (ρ x) h with
      | some v => some (v, h)
      | none => none
    | _ => none
  | .range t x => arange P t (ρ x) h
  | .next it true => anext (ρ it) h
  | .call { callee := .builtin .append, args := ⟨[s, x]⟩, argTypes := ⟨[t, u]⟩ } => aappendX P t u (ρ s) (ρ x) h
  | .call { callee := .builtin .unsafeString, args := ⟨[x, n]⟩, argTypes := ⟨[pt, _]⟩ } => aunsafeString P pt (ρ x) (ρ n) h
  | .call { callee := .builtin .clear, args := ⟨[x]⟩, argTypes := ⟨[t]⟩ } => match aclear P t (ρ x) h with
    | some h' => some (.tuple ⟨[]⟩, h')
    | none => none
  | .call { callee := .builtin .copy, args := ⟨[d, s]⟩, argTypes := ⟨[t, _]⟩ } => acopy P t (ρ d) (ρ s) h
  | .makeMap _ none => some (amakeMap h)
  | .mapUpdate t m k v => match amapUpdate P t (ρ m) (ρ k) (ρ v) h with
    | some h' => some (undef, h')
    | none => none
  | .insert t m k v => match amapUpdate P t (ρ m) (ρ k) (ρ v) h with
    | some h' => some (undef, h')
    | none => none
  | .lookup t x k ok => match alookup P t (ρ x) (ρ k) ok h with
    | some v => some (v, h)
    | none => none
  | .call { callee := .builtin .len, args := ⟨[x]⟩, argTypes := ⟨[t]⟩ } => match amapLen P t (ρ x) h with
    | some v => some (v, h)
    | none => none
  | .call { callee := .value f, args := ⟨[x, y]⟩, .. } => aover P (ρ f) (ρ x) (ρ y) h
  | _ => none

/-- What is known beside the program's text. -/
structure Cfg where
  /-- functions without a body that hand their argument back -/
  ident : FuncId → Bool
  /-- functions that are taken by a contract -/
  spec : FuncId → Array Value → AH → Option (Value × AH)

/-- The method that a pointer's type has by a name: of its own, with the pointer as it is. -/
def amethod (P : Program) (t : TypeId) (name : String) : Option FuncId :=
  match P.info? t, P.underlying t with
  | some i, some (.pointer _) => match i.methods.find? (·.name == name) with
    | some ⟨_, _, ⟨[]⟩, some (f, true)⟩ => match P.funcs[f]? with
      | some fn => match fn.body with
        | some _ => cond (fn.name == "runtime.NumGoroutine") none (some f)
        | none => none
      | none => none
    | _ => none
  | _, _ => none

/-- The function that a call enters, and its arguments. -/
def acallee (P : Program) (ρ : Operand → Value) (o : Oper) : Option (FuncId × Array Value) :=
  match o.op with
  | .call { callee := .value f, args, .. } => match ρ f with
    | .func (.func g) first captured => match P.funcs[g]? with
      | some fn => match fn.body with
        | some _ => cond (fn.name == "runtime.NumGoroutine") none (some (g, ⟨first.toList ++ args.toList.map ρ ++ captured.toList⟩))
        | none => none
      | none => none
    | _ => none
  | .call { callee := .invoke recv name, args, .. } => match ρ recv with
    | .iface t (.pointer (some a)) => match amethod P t name with
      | some g => some (g, ⟨.pointer (some a) :: args.toList.map ρ⟩)
      | none => none
    | _ => none
  | _ => none

def aident (C : Cfg) (ρ : Operand → Value) (o : Oper) : Option Value :=
  match o.op with
  | .call { callee := .value f, args := ⟨[x]⟩, .. } => match ρ f with
    | .func (.func g) ⟨[]⟩ ⟨[]⟩ => cond (C.ident g) (some (ρ x)) none
    | _ => none
  | _ => none

/-- An operation that is not pure. -/
def aimp (P : Program) (C : Cfg) (call : FuncId → Array Value → AH → Option (Value × AH)) (ρ : Operand → Value) (o : Oper) (h : AH) : Option (Value × AH) :=
  match acallee P ρ o with
  | some (g, args) => call g args h
  | none => match aident C ρ o with
    | some v => some (v, h)
    | none => aheap P ρ o h

def evalT (τ : Array Value) : Operand → Value
  | .tmp t => (τ[t]?).getD undef
  | .const v => v
  | .global g => .pointer (some ⟨g, 0, none⟩)
  | .func f => .func (.func f) #[] #[]

def okOperand : Operand → Bool
  | .const v => flat v
  | .global _ => false
  | _ => true

def okOps (o : Oper) : Bool := o.op.operands.toList.all okOperand

def putT (τ : Array Value) (d : Option Tmp) (v : Value) : Array Value :=
  match d with
  | some d => τ.setIfInBounds d v
  | none => τ

/-- What an operation's guard looks at is known. -/
def gok (ops : Array Oper) (τ : Array Value) (o : Oper) : Bool :=
  match o.guard with
  | none => true
  | some (j, _) => match (ops[j]?).bind (·.dst) with
    | some t => notAny ((τ[t]?).getD undef)
    | none => true

/-- A region whose operations come in the text's order. -/
def aops (P : Program) (C : Cfg) (call : FuncId → Array Value → AH → Option (Value × AH)) (ops : Array Oper) : List Nat → Array Value → AH → Option (Array Value × AH)
  | [], τ, h => some (τ, h)
  | i :: rest, τ, h => match ops[i]? with
    | none => aops P C call ops rest τ h
    | some o => cond (gok ops τ o) (cond (Region.wanted o (yielded ops τ))
        (cond (okOps o)
          (match apure P (evalT τ) o with
          | some v => aops P C call ops rest (putT τ o.dst v) h
          | none => match aimp P C call (evalT τ) o h with
            | some (v, h') => aops P C call ops rest (putT τ o.dst v) h'
            | none => none) none)
        (aops P C call ops rest (putT τ o.dst undef) h)) none

/-- What became of one operation of a region that draws its order. -/
structure Rec where
  heap : Bool
  sq : Bool
  v : Value
  new : List (Nat × Obj)
  s : Nat
  e : Nat
  after : AH
  /-- the block that it reads, where that may be at any time -/
  rd : Option Nat
  /-- the blocks that it writes, where these are known -/
  tch : Option (List Nat)
  /-- what it leaves alone lies below -/
  lo : Nat

/-- Whether a block may have been written. -/
def Rec.touch (r : Rec) (c : Nat) : Bool :=
  match r.tch with
  | some l => l.any (Nat.beq c)
  | none => Nat.ble r.lo c

/-- A block that was laid with nothing in sight: it may come at any time. -/
def Rec.ls (r : Rec) : Bool := !r.sq && Nat.beq r.lo 1

def bitOf (B : Array Nat) (i j : Nat) : Bool := (B.getD j 0).testBit i

/-- The blocks that some of the operations have made, before others. -/
def gather (sel : Nat → Bool) : List Rec → List (Nat × Obj) → List (Nat × Obj)
  | [], base => base
  | r :: rs, base => match r.new with
    | [] => gather sel rs base
    | new => cond (sel rs.length) (new ++ gather sel rs base) (gather sel rs base)

def heapBefore (B : Array Nat) (j : Nat) : List Rec → Bool
  | [] => true
  | r :: rs => (!r.heap || r.ls || bitOf B rs.length j) && heapBefore B j rs

/-- Whether a sequential operation that is listed comes behind. -/
def seqL (L : Nat → Bool) (B : Array Nat) (i : Nat) : List Rec → Bool
  | [] => false
  | r :: rs => (r.sq && L rs.length && bitOf B i rs.length) || seqL L B i rs

/-- The blocks that were laid with nothing in sight, those of some. -/
def gatherL (sel : Nat → Bool) : List Rec → List (Nat × Obj)
  | [] => []
  | r :: rs => cond (r.ls && sel rs.length) (r.new ++ gatherL sel rs) (gatherL sel rs)

/-- What a sequential operation takes in: it comes behind these, and no sequential one before it did. -/
def absorb (B : Array Nat) (j : Nat) (rs : List Rec) : List (Nat × Obj) := gatherL (fun i => bitOf B i j && !seqL (fun _ => true) B i rs) rs

/-- What a region leaves. -/
def finalH (B : Array Nat) (ph : Bool) (rs : List Rec) (g : AH) : AH :=
  cond ph { g with blocks := gatherL (fun i => !seqL (fun _ => true) B i rs) rs ++ g.blocks } g

def aloose (P : Program) (ρ : Operand → Value) (o : Oper) (n : Nat) : Option (Value × AH) :=
  match o.op with
  | .alloc t => aalloc P t ⟨n, n, []⟩
  | .buildSlice t len parts => abuildSlice P t len (parts.toList.map fun p => (p.1, ρ p.2)) ⟨n, n, []⟩
  | _ => none

/-- What was read before, and may come later, is not written, nor taken in. -/
def readsOk (B : Array Nat) (j : Nat) (r : Rec) : List Rec → Bool
  | [] => true
  | q :: rs => (match q.rd with
    | some c => !r.touch c || bitOf B rs.length j
    | none => true) && (match q.sq, q.tch with
    | false, some (k :: _) => !bitOf B k j || bitOf B rs.length j
    | _, _ => true) && readsOk B j r rs

def clean (c : Nat) (rs : List Rec) : Bool := rs.all fun q => !q.sq || !q.touch c

def touchOf (ρ : Operand → Value) (o : Oper) : Option (List Nat) :=
  match o.op with
  | .store _ x _ => match ρ x with
    | .pointer (some a) => some [a.block]
    | _ => none
  | .call { callee := .builtin .append, args := ⟨[s, _]⟩, argTypes := ⟨[_, _]⟩ } => match ρ s with
    | .slice (some a) _ _ => some [a.block]
    | .slice none _ _ => some []
    | _ => none
  | _ => none

/-- What a load finds in a block that lay there before. -/
def aread (P : Program) (ρ : Operand → Value) (o : Oper) (base : List (Nat × Obj)) : Option (Nat × Value) :=
  match o.op with
  | .load t x => match ρ x with
    | .pointer (some a) => match look a.block base with
      | some ob => match aload P t (.pointer (some a)) ⟨0, 0, [(a.block, ob)]⟩ with
        | some v => some (a.block, v)
        | none => none
      | none => none
    | _ => none
  | _ => none

def steady (P : Program) (ρ : Operand → Value) (o : Oper) (base : List (Nat × Obj)) (recs : List Rec) : Option (Nat × Value) :=
  match aread P ρ o base with
  | some (c, v) => cond (clean c recs) (some (c, v)) none
  | none => none

/-- The loose operation that laid a block, and the block. -/
def findL (c : Nat) : List Rec → Option (Nat × Obj)
  | [] => none
  | r :: rs => match cond r.ls (look c r.new) none with
    | some ob => some (rs.length, ob)
    | none => findL c rs
/-- What a load finds in a block that was laid loose, and that nothing has taken in. -/
def loosed (P : Program) (ρ : Operand → Value) (o : Oper) (B : Array Nat) (recs : List Rec) : Option (Nat × Value) :=
  match o.op with
  | .load t x => match ρ x with
    | .pointer (some a) => match findL a.block recs with
      | some (k, ob) => cond (bitOf B k recs.length && !seqL (fun _ => true) B k recs) (match aload P t (.pointer (some a)) ⟨0, 0, [(a.block, ob)]⟩ with
        | some v => some (k, v)
        | none => none) none
      | none => none
    | _ => none
  | _ => none

def newest (s e : Nat) (l : List (Nat × Obj)) : List (Nat × Obj) := l.takeWhile fun p => Nat.ble s p.1 && Nat.blt p.1 e

/-- What was read before, and may come later. -/
def pend (B : Array Nat) (j : Nat) : List Rec → List Nat
  | [] => []
  | r :: rs => match r.rd with
    | some c => cond (bitOf B rs.length j) (pend B j rs) (c :: pend B j rs)
    | none => pend B j rs
/-- Whether a value points into a block. -/
def ptsTo (c : Nat) : Value → Bool
  | .pointer (some a) => Nat.beq c a.block
  | .slice (some a) _ _ => Nat.beq c a.block
  | .map (some r) => Nat.beq c r
  | _ => false
/-- The same, for a call: but for the blocks that it is handed. -/
def pendC (P : Program) (ρ : Operand → Value) (o : Oper) (B : Array Nat) (recs : List Rec) : List Nat :=
  match acallee P ρ o with
  | some (_, args) => (pend B recs.length recs).filter fun c => !args.toList.any (ptsTo c)
  | none => []
/-- A heap without some blocks. -/
def remB (cs : List Nat) (h : AH) : AH :=
  match cs with
  | [] => h
  | _ :: _ => { h with blocks := h.blocks.filter fun p => !cs.any (Nat.beq p.1) }
/-- Those blocks put back. -/
def putB (cs : List Nat) (h0 h : AH) : AH :=
  match cs with
  | [] => h
  | _ :: _ => { h with blocks := (h.blocks.filter fun p => !cs.any (Nat.beq p.1)) ++ (h0.blocks.filter fun p => cs.any (Nat.beq p.1)) }
def tchB (cs : List Nat) (n : Nat) (t : Option (List Nat)) : Option (List Nat) :=
  match cs with
  | [] => t
  | _ :: _ => some ((List.range n).filter fun c => !cs.any (Nat.beq c))
/-- An operation that does not see some blocks. -/
def aimpF (P : Program) (C : Cfg) (call : FuncId → Array Value → AH → Option (Value × AH)) (ρ : Operand → Value) (o : Oper) (cs : List Nat) (h : AH) : Option (Value × AH) :=
  match aimp P C call ρ o (remB cs h) with
  | some (v, h') => some (v, putB cs h h')
  | none => none

def adraw (P : Program) (C : Cfg) (call : FuncId → Array Value → AH → Option (Value × AH)) (ops : Array Oper) (B : Array Nat) (base : List (Nat × Obj)) :
    List Oper → List Rec → Bool → AH → Array Value → Option (Array Value × AH)
  | [], recs, ph, g, τ => some (τ, finalH B ph recs g)
  | o :: rest, recs, ph, g, τ => cond (gok ops τ o) (cond (Region.wanted o (yielded ops τ))
      (cond (okOps o)
        (match aloose P (evalT τ) o g.next with
        | some (v, h') => cond (Nat.blt h'.low g.next) none
            (adraw P C call ops B base rest (⟨true, false, v, newest g.next h'.next h'.blocks, g.next, h'.next, g, none, none, 1⟩ :: recs) ph { next := h'.next, low := g.low, blocks := cond ph g.blocks (newest g.next h'.next h'.blocks ++ g.blocks) } (putT τ o.dst v))
        | none => match apure P (evalT τ) o with
        | some v => adraw P C call ops B base rest (⟨false, false, v, [], g.next, g.next, g, none, none, 0⟩ :: recs) ph g (putT τ o.dst v)
        | none => match steady P (evalT τ) o base recs with
        | some (c, v) => adraw P C call ops B base rest (⟨false, false, v, [], g.next, g.next, g, some c, none, 0⟩ :: recs) ph g (putT τ o.dst v)
        | none => match loosed P (evalT τ) o B recs with
        | some (k, v) => adraw P C call ops B base rest (⟨false, false, v, [], g.next, g.next, g, none, some [k], 0⟩ :: recs) ph g (putT τ o.dst v)
        | none => match aimpF P C call (evalT τ) o (pendC P (evalT τ) o B recs) (cond ph { g with low := g.next, blocks := absorb B recs.length recs ++ g.blocks } { next := g.next, low := g.next, blocks := gather (fun i => bitOf B i recs.length) recs base }) with
          | none => none
          | some (v, h') => cond (ph || Nat.blt h'.low g.next)
              (cond (heapBefore B recs.length recs && readsOk B recs.length ⟨true, true, v, [], g.next, h'.next, { h' with low := min g.low h'.low }, none, tchB (pendC P (evalT τ) o B recs) g.next (touchOf (evalT τ) o), h'.low⟩ recs)
                (adraw P C call ops B base rest (⟨true, true, v, [], g.next, h'.next, { h' with low := min g.low h'.low }, none, tchB (pendC P (evalT τ) o B recs) g.next (touchOf (evalT τ) o), h'.low⟩ :: recs) true { h' with low := min g.low h'.low } (putT τ o.dst v)) none)
              (adraw P C call ops B base rest (⟨true, false, v, newest g.next h'.next h'.blocks, g.next, h'.next, g, none, none, 0⟩ :: recs) false { next := h'.next, low := g.low, blocks := newest g.next h'.next h'.blocks ++ g.blocks } (putT τ o.dst v))) none)
      (adraw P C call ops B base rest (⟨false, false, undef, [], g.next, g.next, g, none, none, 0⟩ :: recs) ph g (putT τ o.dst undef))) none

/-- The temporaries that an operation looks at. -/
def looks (ops : Array Oper) (o : Oper) : List Tmp :=
  (o.op.operands.toList.filterMap fun | .tmp t => some t | _ => none) ++
  (match o.guard with
   | some (g, _) => ((ops[g]?).bind (·.dst)).toList
   | none => [])

def inOrder (B : Array Nat) (i j : Nat) : Bool := Nat.beq i j || bitOf B i j || bitOf B j i

/-- What a region that draws its order must meet. -/
def drawOk (ops : Array Oper) (B : Array Nat) : Bool :=
  let l := ops.toList.zipIdx
  l.all fun (o, j) =>
    (o.after.toList.all fun e => !Region.binds .any e || Nat.blt e.on j) &&
    (let ts := o.dst.toList ++ looks ops o
     l.all fun (p, k) => match p.dst with
       | none => true
       | some d => !ts.contains d || inOrder B k j)

inductive AExit where
  | normal
  | exit (id : Nat)
  | ret

/-- The results of a function. -/
def aresult (P : Program) (τ : Array Value) (h : AH) : ResultVar → Option Value
  | .tmp t => some ((τ[t]?).getD undef)
  | .cell a t => match (τ[a]?).getD undef with
    | .pointer (some ad) => aload P t (.pointer (some ad)) h
    | _ => none

def aresults (P : Program) (τ : Array Value) (h : AH) : List ResultVar → Option (List Value)
  | [] => some []
  | r :: rs => match aresult P τ h r with
    | none => none
    | some v => match aresults P τ h rs with
      | none => none
      | some vs => some (v :: vs)

def aresultV (P : Program) (τ : Array Value) (h : AH) (rs : List ResultVar) : Option Value :=
  match aresults P τ h rs with
  | some [v] => some v
  | some vs => some (.tuple ⟨vs⟩)
  | none => none

/-- A function's body, run by 'code'. -/
def acallWith (P : Program) (C : Cfg) (code : Code → Array Value → AH → Option (AExit × Array Value × AH)) (f : FuncId) (args : Array Value) (h : AH) : Option (Value × AH) :=
  match C.spec f args h with
  | some r => some r
  | none => match P.funcs[f]? with
    | none => none
    | some fn => match fn.body with
      | none => none
      | some c => match code c ⟨args.toList ++ List.replicate (fn.ntmps - args.size) undef⟩ h with
        | none => none
        | some (.exit _, _, _) => none
        | some (_, τ, h') => match aresultV P τ h' fn.results.toList with
          | none => none
          | some v => some (v, h')

def acode (P : Program) (C : Cfg) : Nat → Code → Array Value → AH → Option (AExit × Array Value × AH)
  | 0, _, _, _ => none
  | n + 1, c, τ, h => match c with
    | .skip => some (.normal, τ, h)
    | .label _ => some (.normal, τ, h)
    | .scope b => acode P C n b τ h
    | .region _ ops draw => match draw with
      | false => match aops P C (acallWith P C (acode P C n)) ops (List.range ops.size) τ h with
        | some (τ', h') => some (.normal, τ', h')
        | none => none
      | true => cond (drawOk ops (Region.before ops))
          (match adraw P C (acallWith P C (acode P C n)) ops (Region.before ops) h.blocks ops.toList [] false h τ with
          | some (τ', h') => some (.normal, τ', h')
          | none => none) none
    | .seq a b => match acode P C n a τ h with
      | some (.normal, τ', h') => acode P C n b τ' h'
      | r => r
    | .cond x a b => match evalT τ x with
      | .bool true => acode P C n a τ h
      | .bool false => acode P C n b τ h
      | _ => none
    | .block id b => match acode P C n b τ h with
      | some (.exit i, τ', h') => cond (Nat.beq i id) (some (.normal, τ', h')) (some (.exit i, τ', h'))
      | r => r
    | .loop b => match acode P C n b τ h with
      | some (.normal, τ', h') => acode P C n (.loop b) τ' h'
      | r => r
    | .exit id => some (.exit id, τ, h)
    | .ret => some (.ret, τ, h)
    | _ => none

def acall (P : Program) (C : Cfg) (n : Nat) (f : FuncId) (args : Array Value) (h : AH) : Option (Value × AH) := acallWith P C (acode P C n) f args h

end Go.Ev

/-
  The abstract evaluator: soundness of single operations (EvL).
-/
namespace Go.Ev

def CallOK (P : Program) (f : FuncId) (args : Array Value) (h : AH) (v : Value) (h' : AH) : Prop :=
  ∀ (N : Emb) (w : World) (args' : Array Value), CRel N args args' → HRel P N h w → Fresh N h h' →
    Calls P f args' w fun e w' => ∃ N' v', e = .returned v' ∧ VRel N' v v' ∧ Ext P N h w N' h' w'

def ImpOK (P : Program) (o : Oper) (ρ : Operand → Value) (h : AH) (v : Value) (h' : AH) : Prop :=
  ∀ (N : Emb) (w : World) (a : Act), (∀ x ∈ o.op.operands, VRel N (ρ x) (a.eval x)) → HRel P N h w → Fresh N h h' → ∀ (Q : Exit → Act → World → Prop),
    o.wp P a w (fun a' w' => ∃ N' v', a' = a.put o.dst v' ∧ VRel N' v v' ∧ Ext P N h w N' h' w') Q

theorem put_defersL (a : Act) (d : Option Tmp) (v : Value) : (a.put d v).defers = a.defers := by cases d <;> rfl
/-- The fence that lets all in, in a round or not. -/
def wideR (r : Option Nat) : Fence := { Fence.wide with round := r }
theorem calls_in {r : Option Nat} {n : Nat} {P : Program} {f : FuncId} {args : Array Value} {w : World} {R : Ending → World → Prop} (h : Calls P f args w R) : CallsIn (wideR r) n P f args w R := (callsIn_wide (n := n)).2 h
theorem rows_in {r : Option Nat} {n : Nat} {P : Program} {row : String} {args : Array Value} {w : World} {R : Value → World → Prop} (h : Rows P row args w R) : RowsIn (wideR r) n P row args w R :=
  fun c cs _ => let ⟨v, w', x, s⟩ := h c cs; ⟨v, w', x, (stepsIn_wide (P := P)).2 s⟩
theorem op_in {P : Program} {o : Oper} {a : Act} {w : World} {next : Act → World → Prop} {Q : Exit → Act → World → Prop} (r : Option Nat) (n : Nat) (hd : ∀ c, o.op ≠ .defer c) (h : o.wp P a w next Q) : o.wpIn (wideR r) n P a w next Q := by
  refine ⟨fun _ _ => trivial, ?_⟩
  have e : o.semAt (wideR r).round a.eval = execOp a.eval o := by
    unfold Oper.semAt
    split
    · rename_i _ hq
      exact absurd hq (hd _)
    · rfl
  rw [e]
  unfold Oper.wp at h
  cases hx : (execOp a.eval o).run P w with
  | ok nx w' =>
    rw [hx] at h
    cases nx with
    | value v => exact h
    | skip => exact h
    | defer d => exact h
    | enter f args => exact ⟨fun q => (by cases q), calls_in h⟩
    | row row args => exact ⟨fun q => (by cases q), rows_in h⟩
    | _ => exact h.elim
  | halt s w' =>
    rw [hx] at h
    cases s with
    | panic v => exact h
    | _ => exact h.elim
theorem nd_value {P : Program} {o : Oper} {ρ : Operand → Value} {w w' : World} {v : Value} (h : (execOp ρ o).run P w = .ok (.value v) w') : ∀ c, o.op ≠ .defer c := by
  intro c hc
  simp only [execOp, hc, Sem.run_bind] at h
  cases hx : (resolve ρ c o.type).run P w with
  | ok d w1 => rw [hx] at h; simp at h
  | halt s w1 => rw [hx] at h; simp at h
theorem op_value {P : Program} {o : Oper} {a : Act} {w w' : World} {v : Value} {next : Act → World → Prop} {Q : Exit → Act → World → Prop} (r : Option Nat) (n : Nat) (h : (execOp a.eval o).run P w = .ok (.value v) w') (hn : next (a.put o.dst v) w') : o.wpIn (wideR r) n P a w next Q :=
  op_in r n (nd_value h) (by unfold Oper.wp; rw [h]; exact hn)
theorem ImpOK.wpIn {P : Program} {o : Oper} {ρ : Operand → Value} {h h' : AH} {v : Value} (hi : ImpOK P o ρ h v h') (r : Option Nat) (n : Nat) (N : Emb) (w : World) (a : Act) (hρ : ∀ x ∈ o.op.operands, VRel N (ρ x) (a.eval x)) (hr : HRel P N h w) (hf : Fresh N h h') (Q : Exit → Act → World → Prop) :
    o.wpIn (wideR r) n P a w (fun a' w' => ∃ N' v', a' = a.put o.dst v' ∧ VRel N' v v' ∧ Ext P N h w N' h' w') Q := by
  refine op_in r n ?_ (hi N w a hρ hr hf Q)
  intro c hc
  have hx := hi N w a hρ hr hf (fun _ _ _ => False)
  unfold Oper.wp at hx
  simp only [execOp, hc, Sem.run_bind] at hx
  cases hd : (resolve a.eval c o.type).run P w with
  | ok d w1 =>
    rw [hd] at hx
    simp only [Result.andThen_ok, Sem.run_pure] at hx
    obtain ⟨N', v', e, _⟩ := hx
    have := congrArg Act.defers e
    rw [put_defersL, put_defersL] at this
    simp at this
  | halt s w1 =>
    rw [hd] at hx
    simp only [Result.andThen_halt] at hx
    cases s <;> exact hx

theorem HeapOK.imp {P : Program} {o : Oper} {ρ : Operand → Value} {h h' : AH} {v : Value} (hh : HeapOK P o ρ h v h') : ImpOK P o ρ h v h' := by
  intro N w a hρ hr hf Q
  obtain ⟨n, v', w', N', h1, h2, h3, h4⟩ := hh N w a.eval hρ hr hf
  unfold Oper.wp
  rw [h1]
  rcases h2 with rfl | ⟨rfl, rfl⟩
  · exact ⟨N', v', rfl, h3, h4⟩
  · exact ⟨N', undef, rfl, h3, h4⟩

theorem optRel {N : Emb} {ρ ρ' : Operand → Value} {x : Option Operand} (h : ∀ y ∈ x.toArray, VRel N (ρ y) (ρ' y)) : OptRel N (x.map ρ) (x.map ρ') := by
  cases x with
  | none => trivial
  | some y => exact h y (by simp)

theorem undef_rel (N : Emb) : VRel N undef undef := .tuple #[] #[] rfl (by simp)

theorem aheap_ok {P : Program} {ρ : Operand → Value} {o : Oper} {h h' : AH} {v : Value} (ha : aheap P ρ o h = some (v, h')) : HeapOK P o ρ h v h' := by
  intro N w ρ' hρ hr hf
  unfold aheap at ha
  split at ha <;> rename_i hop
  · -- load
    rename_i t x
    split at ha
    · rename_i u hu
      cases ha
      obtain ⟨v', h1, h2⟩ := aload_ok hu (hρ x (by simp [hop, Op.operands])) hr
      exact ⟨_, v', w, N, by simp [execOp, hop, h1], .inl rfl, h2, Ext.refl hr⟩
    · cases ha
  · -- store
    rename_i t x y
    split at ha
    · rename_i h1 hs
      cases ha
      obtain ⟨w', h2, h3⟩ := astore_ok hs (hρ x (by simp [hop, Op.operands])) (hρ y (by simp [hop, Op.operands])) hr
      exact ⟨.skip, undef, w', N, by simp [execOp, hop, h2], .inr ⟨rfl, rfl⟩, undef_rel N, h3⟩
    · cases ha
  · rename_i t
    obtain ⟨v', w', N', h1, h2, h3⟩ := aalloc_ok ha hr hf
    exact ⟨_, v', w', N', by simp [execOp, hop, h1], .inl rfl, h2, h3⟩
  · rename_i t x
    cases hn : notAny (ρ x) with
    | false => rw [hn] at ha; cases ha
    | true =>
    rw [hn] at ha
    cases ha
    obtain ⟨v', w', N', h1, h2, h3⟩ := abox_ok (P := P) (t := t) (hρ x (by simp [hop, Op.operands])) hn hr hf
    exact ⟨_, v', w', N', by simp [execOp, hop, h1], .inl rfl, h2, h3⟩
  · rename_i t len ps
    obtain ⟨v', w', N', h1, h2, h3⟩ := abuildSlice_ok (N := N) (ρ' := ρ') (fun p hp => hρ p.2 (by simp only [hop, Op.operands]; exact List.mem_toArray.2 (List.mem_map.2 ⟨p, hp, rfl⟩))) ha hr hf
    exact ⟨_, v', w', N', by simp [execOp, hop, h1], .inl rfl, h2, h3⟩
  · rename_i t l c
    obtain ⟨v', w', N', h1, h2, h3⟩ := amakeSlice_ok ha (hρ l (by simp [hop, Op.operands])) (hρ c (by simp [hop, Op.operands])) hr hf
    exact ⟨_, v', w', N', by simp [execOp, hop, h1], .inl rfl, h2, h3⟩
  · rename_i t x lo hi
    split at ha
    · rename_i u hu
      cases ha
      obtain ⟨v', h1, h2⟩ := asliceX_ok hu (hρ x (by simp [hop, Op.operands])) (optRel (ρ' := ρ') fun y hy => hρ y (by simp only [hop, Op.operands, Array.mem_append]; simp only [hy, true_or, or_true]))
        (optRel (ρ' := ρ') fun y hy => hρ y (by simp only [hop, Op.operands, Array.mem_append]; simp only [hy, true_or, or_true])) hr
      exact ⟨_, v', w, N, by simp [execOp, hop, h1], .inl rfl, h2, Ext.refl hr⟩
    · cases ha
  · -- convert
    rename_i src dst x
    have hx := hρ x (by simp [hop, Op.operands])
    split at ha
    · split at ha
      · rename_i u hu
        cases ha
        obtain ⟨v', h1, h2⟩ := abytesToString_ok hu hx hr
        exact ⟨_, v', w, N, by simp [execOp, hop, h1], .inl rfl, h2, Ext.refl hr⟩
      · cases ha
    · obtain ⟨v', w', N', h1, h2, h3⟩ := astringToBytes_ok ha hx hr hf
      exact ⟨_, v', w', N', by simp [execOp, hop, h1], .inl rfl, h2, h3⟩
    · split at ha
      · rename_i u hu
        cases ha
        obtain ⟨v', h1, h2⟩ := aunsafePointer_ok hu hx hr
        exact ⟨_, v', w, N, by simp [execOp, hop, h1], .inl rfl, h2, Ext.refl hr⟩
      · cases ha
    · cases ha
  · rename_i t x
    obtain ⟨v', w', N', h1, h2, h3⟩ := arange_ok ha (hρ x (by simp [hop, Op.operands])) hr hf
    exact ⟨_, v', w', N', by simp [execOp, hop, h1], .inl rfl, h2, h3⟩
  · rename_i it
    obtain ⟨v', w', h1, h2, h3⟩ := anext_ok (ty := o.type) ha (hρ it (by simp [hop, Op.operands])) hr
    exact ⟨_, v', w', N, by simp [execOp, hop, h1], .inl rfl, h2, h3⟩
  · rename_i s x t u
    obtain ⟨v', w', N', h1, h2, h3⟩ := aappendX_ok (ty := o.type) ha (hρ s (by simp [hop, Op.operands, Call.operands])) (hρ x (by simp [hop, Op.operands, Call.operands])) hr hf
    exact ⟨_, v', w', N', by simp [execOp, hop, resolve, invoke, builtin, h1], .inl rfl, h2, h3⟩
  · rename_i x n pt it
    obtain ⟨v', w', h1, h2, h3⟩ := aunsafeString_ok (it := it) (ty := o.type) ha (hρ x (by simp [hop, Op.operands, Call.operands])) (hρ n (by simp [hop, Op.operands, Call.operands])) hr
    exact ⟨_, v', w', N, by simp [execOp, hop, resolve, invoke, builtin, h1], .inl rfl, h2, h3⟩
  · rename_i x t
    split at ha
    · rename_i h1 hs
      cases ha
      obtain ⟨w', h2, h3⟩ := aclear_ok (ty := o.type) hs (hρ x (by simp [hop, Op.operands, Call.operands])) hr
      exact ⟨_, .tuple #[], w', N, by simp [execOp, hop, resolve, invoke, builtin, h2], .inl rfl, flat_refl N (by rfl), h3⟩
    · cases ha
  · rename_i d s t u
    obtain ⟨w', h1, h2, h3⟩ := acopy_ok (u := u) (ty := o.type) ha (hρ d (by simp [hop, Op.operands, Call.operands])) (hρ s (by simp [hop, Op.operands, Call.operands])) hr
    exact ⟨_, _, w', N, by simp [execOp, hop, resolve, invoke, builtin, h1], .inl rfl, flat_refl N h2, h3⟩
  · rename_i t
    cases ha
    obtain ⟨v', w', N', h1, h2, h3⟩ := amakeMap_ok (t := t) hr hf
    exact ⟨_, v', w', N', by simp [execOp, hop, h1], .inl rfl, h2, h3⟩
  · rename_i t m k y
    split at ha
    · rename_i h1 hs
      cases ha
      obtain ⟨w', h2, h3⟩ := amapUpdate_ok hs (hρ m (by simp [hop, Op.operands])) (hρ k (by simp [hop, Op.operands])) (hρ y (by simp [hop, Op.operands])) hr
      exact ⟨.skip, undef, w', N, by simp [execOp, hop, h2], .inr ⟨rfl, rfl⟩, undef_rel N, h3⟩
    · cases ha
  · rename_i t m k y
    split at ha
    · rename_i h1 hs
      cases ha
      obtain ⟨w', h2, h3⟩ := amapUpdate_ok hs (hρ m (by simp [hop, Op.operands])) (hρ k (by simp [hop, Op.operands])) (hρ y (by simp [hop, Op.operands])) hr
      exact ⟨.skip, undef, w', N, by simp [execOp, hop, h2], .inr ⟨rfl, rfl⟩, undef_rel N, h3⟩
    · cases ha
  · rename_i t x k ok
    split at ha
    · rename_i u hu
      cases ha
      obtain ⟨v', h1, h2⟩ := alookup_ok hu (hρ x (by simp [hop, Op.operands])) (hρ k (by simp [hop, Op.operands])) hr
      exact ⟨_, v', w, N, by simp [execOp, hop, h1], .inl rfl, h2, Ext.refl hr⟩
    · cases ha
  · rename_i x t
    split at ha
    · rename_i u hu
      cases ha
      obtain ⟨v', h1, h2⟩ := amapLen_ok (ty := o.type) hu (hρ x (by simp [hop, Op.operands, Call.operands])) hr
      exact ⟨_, v', w, N, by simp [execOp, hop, resolve, invoke, builtin, h1], .inl rfl, h2, Ext.refl hr⟩
    · cases ha
  · rename_i f x y ts
    obtain ⟨rfl, rfl, g, h1, h2⟩ := aover_ok ha (hρ f (by simp [hop, Op.operands, Call.operands])) (hρ x (by simp [hop, Op.operands, Call.operands])) (hρ y (by simp [hop, Op.operands, Call.operands])) hr
    refine ⟨_, .bool false, w, N, ?_, .inl rfl, .bool false, Ext.refl hr⟩
    simp only [execOp, hop, resolve, h1, Deferred.ofValue, Sem.run_bind, Sem.run_pure, Result.andThen_ok, invoke]
    simpa using h2
  · cases ha

/-- What the configuration promises. -/
structure Cfg.OK (P : Program) (C : Cfg) : Prop where
  ident : ∀ g, C.ident g = true → ∀ x w, (callFunc g #[x]).run P w = .ok (.value x) w
  spec : ∀ f args h v h', C.spec f args h = some (v, h') → CallOK P f args h v h' ∧ h.next ≤ h'.next

theorem map_mk (ρ : Operand → Value) (xs : Array Operand) : (⟨xs.toList.map ρ⟩ : Array Value) = xs.map ρ := by apply Array.ext'; simp

theorem VRel.inv_iface {N : Emb} {t : TypeId} {v v' : Value} (h : VRel N (.iface t v) v') : ∃ u, v' = .iface t u ∧ VRel N v u := by
  cases h with
  | iface _ _ u h => exact ⟨u, rfl, h⟩
theorem amethod_run {P : Program} {t : TypeId} {name : String} {g : FuncId} {v : Value} {args : Array Value} {w : World} (h : amethod P t name = some g) :
    (invoke (.fn (.method name) #[]) (#[Value.iface t v] ++ args)).run P w = .ok (.enter g (#[v] ++ args)) w := by
  have e0 : (#[Value.iface t v] ++ args)[0]? = some (.iface t v) := by
    rw [Array.getElem?_append_left (by simp)]
    rfl
  have e1 : (#[Value.iface t v] ++ args).extract 1 (#[Value.iface t v] ++ args).size = args := by
    apply Array.ext'
    simp
  simp only [invoke, e0, e1]
  unfold amethod at h
  split at h
  · rename_i i el hi hu
    split at h
    · rename_i nm sg f hf
      split at h
      · rename_i fn hfn
        split at h
        · rename_i body hbody
          cases hnm : (fn.name == "runtime.NumGoroutine") with
          | true => rw [hnm] at h; cases h
          | false =>
            rw [hnm] at h
            cases h
            have hne : ¬ fn.name = "runtime.NumGoroutine" := by simpa using hnm
            have hm : (method (P.types.size + Made.depth) t v name).run P w = .ok (g, v) w := by
              have : P.types.size + Made.depth = (P.types.size + 99) + 1 := rfl
              rw [this]
              unfold method
              simp [typeInfo, underlying, hi, hf, hu, follow, receiverAt, Place.get]
            have hc : (callFunc g (#[v] ++ args)).run P w = .ok (.enter g (#[v] ++ args)) w := by
              simp [callFunc, hfn, hne, hbody]
            simp only [callMethod, Sem.run_bind, run_program, Result.andThen_ok, hm]
            exact hc
        · cases h
      · cases h
    · cases h
  · cases h

theorem aimp_ok {P : Program} {C : Cfg} (hC : C.OK P) {call : FuncId → Array Value → AH → Option (Value × AH)} (hcall : ∀ f args h v h', call f args h = some (v, h') → CallOK P f args h v h')
    {ρ : Operand → Value} {o : Oper} {h h' : AH} {v : Value} (ha : aimp P C call ρ o h = some (v, h')) : ImpOK P o ρ h v h' := by
  unfold aimp at ha
  split at ha
  · rename_i g args hg
    have hok := hcall _ _ _ _ _ ha
    intro N w a hρ hr hf Q
    unfold acallee at hg
    split at hg
    · rename_i f xs ts hop
      have hfv := hρ f (by simp [hop, Op.operands, Call.operands])
      split at hg
      · rename_i g' first captured hval
        rw [hval] at hfv
        obtain ⟨g₀, x', y', e1, e2, hx, hy⟩ := hfv.inv_func
        cases e1
        split at hg
        · rename_i fn hfn
          split at hg
          · rename_i body hbody
            cases hnm : (fn.name == "runtime.NumGoroutine") with
            | true => rw [hnm] at hg; cases hg
            | false =>
              rw [hnm] at hg
              cases hg
              have hargs : CRel N (xs.map ρ) (xs.map a.eval) := CRel.map fun x hx => hρ x (by simp [hop, Op.operands, Call.operands, hx])
              have hall : CRel N ⟨first.toList ++ xs.toList.map ρ ++ captured.toList⟩ (x' ++ xs.map a.eval ++ y') := by
                have h1 := CRel.append (a := first.toList) (a' := x'.toList) (b := xs.toList.map ρ) (b' := xs.toList.map a.eval) (by simpa using hx) (by rw [map_mk, map_mk]; exact hargs)
                have h2 := CRel.append h1 (b := captured.toList) (b' := y'.toList) (by simpa using hy)
                have e : (⟨x'.toList ++ xs.toList.map a.eval ++ y'.toList⟩ : Array Value) = x' ++ xs.map a.eval ++ y' := by apply Array.ext'; simp
                rw [e] at h2
                exact h2
              have hrun : (execOp a.eval o).run P w = .ok (.enter g (x' ++ xs.map a.eval ++ y')) w := by
                have hc : (callFunc g (x' ++ xs.map a.eval ++ y')).run P w = .ok (.enter g (x' ++ xs.map a.eval ++ y')) w := by
                  have hne : ¬ fn.name = "runtime.NumGoroutine" := by simpa using hnm
                  simp [callFunc, hfn, hne, hbody]
                simp only [execOp, hop, resolve, e2, Deferred.ofValue, Sem.run_bind, Sem.run_pure, Result.andThen_ok, invoke]
                exact hc
              unfold Oper.wp
              rw [hrun]
              refine (hok N w _ hall hr hf).mono ?_
              rintro e w' ⟨N', v', rfl, h1, h2⟩
              exact ⟨N', v', rfl, h1, h2⟩
          · cases hg
        · cases hg
      · cases hg
    · rename_i recv name xs ts hop
      have hrv := hρ recv (by simp [hop, Op.operands, Call.operands])
      split at hg
      · rename_i t ad hval
        rw [hval] at hrv
        split at hg
        · rename_i g' hm
          cases hg
          obtain ⟨v', e2, hv'⟩ := hrv.inv_iface
          have hargs : CRel N (xs.map ρ) (xs.map a.eval) := CRel.map fun x hx => hρ x (by simp [hop, Op.operands, Call.operands, hx])
          have hall : CRel N ⟨.pointer (some ad) :: xs.toList.map ρ⟩ (#[v'] ++ xs.map a.eval) := by
            have h1 := CRel.append (a := [.pointer (some ad)]) (a' := [v']) (b := xs.toList.map ρ) (b' := xs.toList.map a.eval) (CRel.one hv') (by rw [map_mk, map_mk]; exact hargs)
            have e : (⟨[v'] ++ xs.toList.map a.eval⟩ : Array Value) = #[v'] ++ xs.map a.eval := by apply Array.ext'; simp
            rw [e] at h1
            exact h1
          have hrun : (execOp a.eval o).run P w = .ok (.enter g (#[v'] ++ xs.map a.eval)) w := by
            simp only [execOp, hop, resolve, Sem.run_bind, Sem.run_pure, Result.andThen_ok]
            rw [e2]
            exact amethod_run hm
          unfold Oper.wp
          rw [hrun]
          refine (hok N w _ hall hr hf).mono ?_
          rintro e w' ⟨N', v', rfl, h1, h2⟩
          exact ⟨N', v', rfl, h1, h2⟩
        · cases hg
      · cases hg
    · cases hg
  · split at ha
    · rename_i u hu
      cases ha
      unfold aident at hu
      split at hu
      · rename_i f x ts hop
        split at hu
        · rename_i g hval
          cases hg : C.ident g with
          | false => rw [hg] at hu; cases hu
          | true =>
            rw [hg] at hu
            cases hu
            intro N w a hρ hr hf Q
            have hfv := hρ f (by simp [hop, Op.operands, Call.operands])
            have hxv := hρ x (by simp [hop, Op.operands, Call.operands])
            rw [hval] at hfv
            obtain ⟨g₀, x', y', e1, e2, hx, hy⟩ := hfv.inv_func
            cases e1
            have hx0 : x' = #[] := by simpa using hx.1.symm
            have hy0 : y' = #[] := by simpa using hy.1.symm
            subst hx0 hy0
            have hrun : (execOp a.eval o).run P w = .ok (.value (a.eval x)) w := by
              have := hC.ident g hg (a.eval x) w
              simp only [execOp, hop, resolve, e2, Deferred.ofValue, Sem.run_bind, Sem.run_pure, Result.andThen_ok, invoke]
              simpa using this
            unfold Oper.wp
            rw [hrun]
            exact ⟨N, a.eval x, rfl, hxv, Ext.refl hr⟩
        · cases hu
      · cases hu
    · exact (aheap_ok ha).imp

end Go.Ev

/-
  The abstract evaluator: names only grow (EvM).
-/
namespace Go.Ev

theorem finalH_next (B : Array Nat) (ph : Bool) (rs : List Rec) (g : AH) : (finalH B ph rs g).next = g.next := by cases ph <;> rfl
theorem storeA_next {h h' : AH} {a : Addr} {vs : List Value} (hs : storeA h a vs = some h') : h'.next = h.next := by
  unfold storeA at hs
  split at hs
  · cases hs; rfl
  · split at hs
    · rename_i c t fr hb
      cases hc : (a.spot.isNone && Nat.ble (a.off + vs.length) c.size && (Nat.beq fr.1 fr.2 || Nat.ble (a.off + vs.length) fr.1 || Nat.ble fr.2 a.off) && vs.all oneCell) <;> rw [hc] at hs <;> cases hs
      rfl
    · cases hs

theorem cond_some {α : Type} {b : Bool} {x : Option α} {v : α} (h : (cond b x none) = some v) : b = true ∧ x = some v := by
  cases b
  · cases h
  · exact ⟨rfl, h⟩

theorem abuildSlice_next {P : Program} {t : TypeId} {len : Nat} {parts : List (Nat × Value)} {n : Nat} {v : Value} {h : AH} (ha : abuildSlice P t len parts ⟨n, n, []⟩ = some (v, h)) : n ≤ h.next := by
  unfold abuildSlice at ha
  split at ha
  · split at ha
    · cases ha
    · split at ha
      · cases ha
      · obtain ⟨_, ha⟩ := cond_some ha
        split at ha
        · cases ha; simp [AH.push]
        · cases ha
  · cases ha
theorem aloose_next {P : Program} {ρ : Operand → Value} {o : Oper} {n : Nat} {v : Value} {h : AH} (ha : aloose P ρ o n = some (v, h)) : n ≤ h.next := by
  unfold aloose at ha
  split at ha
  · unfold aalloc at ha
    split at ha
    · cases ha; exact Nat.le_succ n
    · cases ha
  · exact abuildSlice_next ha
  · cases ha

theorem cond_cases {α : Type} {b : Bool} {x y : Option α} {v : α} (h : (cond b x y) = some v) : (b = true ∧ x = some v) ∨ (b = false ∧ y = some v) := by
  cases b
  · exact .inr ⟨rfl, h⟩
  · exact .inl ⟨rfl, h⟩

theorem aappend_next {P : Program} {t u : TypeId} {s x v : Value} {h h' : AH} (ha : aappend P t u s x h = some (v, h')) : h.next ≤ h'.next := by
  unfold aappend at ha
  split at ha
  · split at ha
    · cases ha
    · split at ha
      · cases ha
      · split at ha
        · cases ha
        · obtain ⟨_, ha⟩ := cond_some ha
          rcases cond_cases ha with ⟨_, ha⟩ | ⟨_, ha⟩
          · split at ha
            · cases ha; exact Nat.le_refl _
            · split at ha
              · cases ha
              · rename_i hst
                cases ha
                rw [storeA_next hst]
                exact Nat.le_refl _
          · obtain ⟨_, ha⟩ := cond_some ha
            split at ha
            · obtain ⟨_, ha⟩ := cond_some ha
              cases ha
              simp [AH.push]
            · split at ha
              · obtain ⟨_, ha⟩ := cond_some ha
                cases ha
                simp [AH.push, AH.del]
              · cases ha
  · cases ha
theorem aappendX_next {P : Program} {t u : TypeId} {s x v : Value} {h h' : AH} (ha : aappendX P t u s x h = some (v, h')) : h.next ≤ h'.next := by
  unfold aappendX at ha
  split at ha
  · split at ha
    · split at ha
      · cases ha
      · split at ha
        · cases ha
        · split at ha
          · cases ha
          · obtain ⟨_, ha⟩ := cond_some ha
            obtain ⟨_, ha⟩ := cond_some ha
            obtain ⟨_, ha⟩ := cond_some ha
            split at ha
            · obtain ⟨_, ha⟩ := cond_some ha
              cases ha
              exact Nat.le_succ _
            · cases ha
    · cases ha
  · exact aappend_next ha

theorem amapUpdate_next {P : Program} {t : TypeId} {m k v : Value} {h h' : AH} (ha : amapUpdate P t m k v h = some h') : h'.next = h.next := by
  unfold amapUpdate at ha
  split at ha
  · split at ha
    · obtain ⟨_, ha⟩ := cond_some ha
      split at ha
      · cases ha; rfl
      · cases ha; rfl
      · cases ha
    · cases ha
  · cases ha

theorem aheap_next {P : Program} {ρ : Operand → Value} {o : Oper} {h h' : AH} {v : Value} (ha : aheap P ρ o h = some (v, h')) : h.next ≤ h'.next := by
  unfold aheap at ha
  split at ha
  · split at ha
    · cases ha; exact Nat.le_refl _
    · cases ha
  · split at ha
    · rename_i h1 hs
      cases ha
      unfold astore at hs
      split at hs
      · split at hs
        · obtain ⟨_, hs⟩ := cond_some hs
          rw [storeA_next hs]
          exact Nat.le_refl _
        · cases hs
      · cases hs
    · cases ha
  · unfold aalloc at ha
    split at ha
    · cases ha; simp [AH.push]
    · cases ha
  · obtain ⟨_, ha⟩ := cond_some ha
    cases ha; simp [AH.push]
  · unfold abuildSlice at ha
    split at ha
    · split at ha
      · cases ha
      · split at ha
        · cases ha
        · obtain ⟨_, ha⟩ := cond_some ha
          split at ha
          · cases ha; simp [AH.push]
          · cases ha
    · cases ha
  · unfold amakeSlice at ha
    split at ha
    · split at ha
      · cases ha
      · split at ha
        · cases ha
        · obtain ⟨_, ha⟩ := cond_some ha
          cases ha
          simp [AH.push]
    · cases ha
  · split at ha
    · cases ha; exact Nat.le_refl _
    · cases ha
  · split at ha
    · split at ha
      · cases ha; exact Nat.le_refl _
      · cases ha
    · unfold astringToBytes at ha
      split at ha
      · split at ha
        · obtain ⟨_, ha⟩ := cond_some ha
          cases ha
          simp [AH.push]
        · cases ha
      · cases ha
    · split at ha
      · cases ha; exact Nat.le_refl _
      · cases ha
    · cases ha
  · unfold arange at ha
    split at ha
    · cases ha; simp [AH.push]
    · cases ha
  · unfold anext at ha
    split at ha
    · split at ha
      · rename_i s pos hb
        cases hl : Nat.blt pos s.size <;> rw [hl] at ha
        · cases ha; exact Nat.le_refl _
        · simp only [cond_true] at ha
          cases ha
          exact Nat.le_refl _
      · cases ha
    · cases ha
  · exact aappendX_next ha
  · unfold aunsafeString at ha
    split at ha
    · split at ha
      · split at ha
        · obtain ⟨_, ha⟩ := cond_some ha
          cases ha
          exact Nat.le_refl _
        · cases ha
      · cases ha
    · cases ha
  · split at ha
    · rename_i h1 hs
      cases ha
      unfold aclear at hs
      split at hs
      · cases hs; exact Nat.le_refl _
      · split at hs
        · rw [storeA_next hs]; exact Nat.le_refl _
        · cases hs
      · cases hs
    · cases ha
  · unfold acopy at ha
    split at ha
    · split at ha
      · split at ha
        · rcases cond_caseJ ha with ⟨_, ha⟩ | ⟨_, ha⟩
          · split at ha
            · rename_i h1 hst
              cases ha
              rw [storeA_next hst]
              exact Nat.le_refl _
            · cases ha
          · split at ha
            · split at ha
              · split at ha
                · rename_i h1 hst
                  cases ha
                  rw [storeA_next hst]
                  exact Nat.le_refl _
                · cases ha
              · cases ha
            · cases ha
        · cases ha
      · cases ha
    · cases ha
  · cases ha; simp [AH.push]
  · split at ha
    · rename_i h1 hs
      cases ha
      rw [amapUpdate_next hs]
      exact Nat.le_refl _
    · cases ha
  · split at ha
    · rename_i h1 hs
      cases ha
      rw [amapUpdate_next hs]
      exact Nat.le_refl _
    · cases ha
  · split at ha
    · cases ha; exact Nat.le_refl _
    · cases ha
  · split at ha
    · cases ha; exact Nat.le_refl _
    · cases ha
  · unfold aover at ha
    split at ha
    · split at ha
      · split at ha
        · split at ha
          · obtain ⟨_, ha⟩ := cond_some ha
            cases ha
            exact Nat.le_refl _
          · cases ha
        · cases ha
      · cases ha
    · cases ha
  · cases ha

section
variable {P : Program} {C : Cfg} {call : FuncId → Array Value → AH → Option (Value × AH)} (hcall : ∀ f args h v h', call f args h = some (v, h') → h.next ≤ h'.next)
include hcall

theorem aimp_next {ρ : Operand → Value} {o : Oper} {h h' : AH} {v : Value} (ha : aimp P C call ρ o h = some (v, h')) : h.next ≤ h'.next := by
  unfold aimp at ha
  split at ha
  · exact hcall _ _ _ _ _ ha
  · split at ha
    · cases ha; exact Nat.le_refl _
    · exact aheap_next ha

theorem aops_next {ops : Array Oper} : ∀ (l : List Nat) (τ : Array Value) (h : AH) (τ' : Array Value) (h' : AH), aops P C call ops l τ h = some (τ', h') → h.next ≤ h'.next
  | [], τ, h, τ', h', ha => by simp only [aops, Option.some.injEq, Prod.mk.injEq] at ha; obtain ⟨_, rfl⟩ := ha; exact Nat.le_refl _
  | i :: l, τ, h, τ', h', ha => by
    unfold aops at ha
    split at ha
    · exact aops_next l _ _ _ _ ha
    · rename_i o ho
      obtain ⟨_, ha⟩ := cond_some ha
      cases hw : Region.wanted o (yielded ops τ) with
      | false => rw [hw] at ha; exact aops_next l _ _ _ _ ha
      | true =>
        rw [hw] at ha
        simp only [cond_true] at ha
        obtain ⟨_, ha⟩ := cond_some ha
        split at ha
        · exact aops_next l _ _ _ _ ha
        · split at ha
          · rename_i v h1 h2
            exact Nat.le_trans (aimp_next hcall h2) (aops_next l _ _ _ _ ha)
          · cases ha

omit hcall in
theorem remB_next (cs : List Nat) (h : AH) : (remB cs h).next = h.next := by cases cs <;> rfl
omit hcall in
theorem putB_next (cs : List Nat) (h0 h : AH) : (putB cs h0 h).next = h.next := by cases cs <;> rfl
theorem aimpF_next {ρ : Operand → Value} {o : Oper} {cs : List Nat} {h h' : AH} {v : Value} (ha : aimpF P C call ρ o cs h = some (v, h')) : h.next ≤ h'.next := by
  unfold aimpF at ha
  split at ha
  · rename_i u k hi
    cases ha
    have := aimp_next hcall hi
    rw [remB_next] at this
    rw [putB_next]
    exact this
  · cases ha
theorem adraw_next {ops : Array Oper} {B : Array Nat} {base : List (Nat × Obj)} : ∀ (l : List Oper) (recs : List Rec) (ph : Bool) (g : AH) (τ : Array Value) (τ' : Array Value) (g' : AH),
    adraw P C call ops B base l recs ph g τ = some (τ', g') → g.next ≤ g'.next
  | [], recs, ph, g, τ, τ', g', ha => by
    simp only [adraw, Option.some.injEq, Prod.mk.injEq] at ha
    obtain ⟨_, rfl⟩ := ha
    cases ph <;> exact Nat.le_refl _
  | o :: l, recs, ph, g, τ, τ', g', ha => by
    unfold adraw at ha
    obtain ⟨_, ha⟩ := cond_some ha
    cases hw : Region.wanted o (yielded ops τ) with
    | false => rw [hw] at ha; exact adraw_next l _ _ _ _ _ _ ha
    | true =>
      rw [hw] at ha
      simp only [cond_true] at ha
      obtain ⟨_, ha⟩ := cond_some ha
      split at ha
      · rename_i v h1 hlo
        cases hc : Nat.blt h1.low g.next with
        | true => rw [hc] at ha; cases ha
        | false =>
          rw [hc] at ha
          simp only [cond_false] at ha
          have h5 := adraw_next l _ _ _ _ _ _ ha
          exact Nat.le_trans (aloose_next hlo) h5
      split at ha
      · exact adraw_next l _ _ _ _ _ _ ha
      split at ha
      · exact adraw_next l _ _ _ _ _ _ ha
      split at ha
      · exact adraw_next l _ _ _ _ _ _ ha
      · split at ha
        · cases ha
        · rename_i v h1 h2
          have h3 := aimpF_next hcall h2
          have h4 : (cond ph { g with low := g.next, blocks := absorb B recs.length recs ++ g.blocks } { next := g.next, low := g.next, blocks := gather (fun i => bitOf B i recs.length) recs base } : AH).next = g.next := by cases ph <;> rfl
          rw [h4] at h3
          cases hc : (ph || Nat.blt h1.low g.next) with
          | true =>
            rw [hc] at ha
            simp only [cond_true] at ha
            obtain ⟨_, ha⟩ := cond_some ha
            have h5 := adraw_next l _ _ _ _ _ _ ha
            exact Nat.le_trans h3 h5
          | false =>
            rw [hc] at ha
            simp only [cond_false] at ha
            have h5 := adraw_next l _ _ _ _ _ _ ha
            exact Nat.le_trans h3 h5
end

theorem acallWith_next {P : Program} {C : Cfg} (hC : C.OK P) {code : Code → Array Value → AH → Option (AExit × Array Value × AH)}
    (hcode : ∀ c τ h e τ' h', code c τ h = some (e, τ', h') → h.next ≤ h'.next) {f : FuncId} {args : Array Value} {h h' : AH} {v : Value} (ha : acallWith P C code f args h = some (v, h')) : h.next ≤ h'.next := by
  unfold acallWith at ha
  split at ha
  · rename_i r hs
    cases ha
    exact (hC.spec _ _ _ _ _ hs).2
  · split at ha
    · cases ha
    · split at ha
      · cases ha
      · split at ha
        · cases ha
        · cases ha
        · rename_i e τ h1 _ hc
          split at ha
          · cases ha
          · cases ha
            exact hcode _ _ _ _ _ _ hc

theorem acode_next {P : Program} {C : Cfg} (hC : C.OK P) : ∀ (n : Nat) (c : Code) (τ : Array Value) (h : AH) (e : AExit) (τ' : Array Value) (h' : AH), acode P C n c τ h = some (e, τ', h') → h.next ≤ h'.next
  | 0, c, τ, h, e, τ', h', ha => by simp [acode] at ha
  | n + 1, c, τ, h, e, τ', h', ha => by
    have ih := acode_next hC n
    have hcall : ∀ f args h v h', acallWith P C (acode P C n) f args h = some (v, h') → h.next ≤ h'.next := fun f args h v h' hx => acallWith_next hC ih hx
    unfold acode at ha
    split at ha
    · cases ha; exact Nat.le_refl _
    · cases ha; exact Nat.le_refl _
    · exact ih _ _ _ _ _ _ ha
    · split at ha
      · split at ha
        · rename_i hx
          cases ha
          exact aops_next hcall _ _ _ _ _ hx
        · cases ha
      · obtain ⟨_, ha⟩ := cond_some ha
        split at ha
        · rename_i hx
          cases ha
          exact adraw_next hcall _ _ _ _ _ _ _ hx
        · cases ha
    · split at ha
      · rename_i hx
        exact Nat.le_trans (ih _ _ _ _ _ _ hx) (ih _ _ _ _ _ _ ha)
      · exact ih _ _ _ _ _ _ ha
    · split at ha
      · exact ih _ _ _ _ _ _ ha
      · exact ih _ _ _ _ _ _ ha
      · cases ha
    · split at ha
      · rename_i hx
        have hx' := ih _ _ _ _ _ _ hx
        rcases cond_cases ha with ⟨_, ha⟩ | ⟨_, ha⟩ <;> cases ha <;> exact hx'
      · exact ih _ _ _ _ _ _ ha
    · split at ha
      · rename_i hx
        exact Nat.le_trans (ih _ _ _ _ _ _ hx) (ih _ _ _ _ _ _ ha)
      · exact ih _ _ _ _ _ _ ha
    · cases ha; exact Nat.le_refl _
    · cases ha; exact Nat.le_refl _
    · cases ha

end Go.Ev

/-
  The abstract evaluator: regions in the text's order; results (EvN).
-/
namespace Go.Ev

theorem getD_rel {N : Emb} {τ τ' : Array Value} (h : CRel N τ τ') (t : Nat) : VRel N ((τ[t]?).getD undef) (τ'.getD t undef) := by
  cases ht : τ[t]? with
  | some v =>
    obtain ⟨v', h1, h2⟩ := h.get ht
    have : τ'.getD t undef = v' := by
      have := Array.getD_eq_getD_getElem? (xs := τ') (i := t) (d := undef)
      rw [this, h1]; rfl
    rw [this]
    exact h2
  | none =>
    have h1 : τ'[t]? = none := by
      rw [Array.getElem?_eq_none_iff] at ht ⊢
      rw [← h.1]; exact ht
    have : τ'.getD t undef = undef := by
      have := Array.getD_eq_getD_getElem? (xs := τ') (i := t) (d := undef)
      rw [this, h1]; rfl
    rw [this]
    exact undef_rel N

theorem eval_rel {N : Emb} {τ : Array Value} {a : Act} (h : CRel N τ a.tmps) {x : Operand} (hx : okOperand x = true) : VRel N (evalT τ x) (a.eval x) := by
  cases x with
  | tmp t => exact getD_rel h t
  | const v => exact flat_refl N hx
  | global g => simp [okOperand] at hx
  | func f => exact .func f _ _ _ _ rfl rfl (by simp) (by simp)

theorem okOps_mem {o : Oper} (h : okOps o = true) {x : Operand} (hx : x ∈ o.op.operands) : okOperand x = true :=
  List.all_eq_true.1 h x (Array.mem_toList_iff.2 hx)

/-- A temporary that is looked at, on both sides. -/
theorem yielded_rel' {N : Emb} {ops : Array Oper} {τ τ' : Array Value} (j : Nat)
    (h : ∀ t, (ops[j]?).bind (·.dst) = some t → (τ[t]? = none ∧ τ'[t]? = none) ∨ ∃ v v', τ[t]? = some v ∧ τ'[t]? = some v' ∧ VRel N v v' ∧ notAny v = true) : yielded ops τ j = yielded ops τ' j := by
  unfold yielded
  cases hd : (ops[j]?).bind (·.dst) with
  | none => rfl
  | some t =>
    rcases h t hd with ⟨h1, h2⟩ | ⟨v, v', h1, h2, h3, h4⟩
    · simp [h1, h2]
    · simp only [Option.bind_some, h1, h2]
      cases h3 <;> first | rfl | (simp [notAny, anyV] at h4)

theorem gok_some {ops : Array Oper} {τ : Array Value} {o : Oper} {j : Nat} {b : Bool} (h : gok ops τ o = true) (hg : o.guard = some (j, b)) {t : Tmp} (ht : (ops[j]?).bind (·.dst) = some t) {v : Value} (hv : τ[t]? = some v) : notAny v = true := by
  unfold gok at h
  rw [hg] at h
  simp only [ht, hv, Option.getD_some] at h
  exact h

theorem wanted_rel {N : Emb} {ops : Array Oper} {τ τ' : Array Value} (h : CRel N τ τ') (o : Oper) (hk : gok ops τ o = true) : Region.wanted o (yielded ops τ') = Region.wanted o (yielded ops τ) := by
  unfold Region.wanted
  cases hg : o.guard with
  | none => rfl
  | some g =>
    obtain ⟨j, b⟩ := g
    have : yielded ops τ j = yielded ops τ' j := by
      apply yielded_rel' (N := N)
      intro t hd
      cases ht : τ[t]? with
      | some v =>
        obtain ⟨v', h1, h2⟩ := h.get ht
        exact .inr ⟨v, v', rfl, h1, h2, gok_some hk hg hd ht⟩
      | none =>
        rw [Array.getElem?_eq_none_iff] at ht
        exact .inl ⟨rfl, Array.getElem?_eq_none (h.1 ▸ ht)⟩
    simp only [this]

theorem putT_rel {N : Emb} {τ : Array Value} {a : Act} (h : CRel N τ a.tmps) (d : Option Tmp) {v v' : Value} (hv : VRel N v v') : CRel N (putT τ d v) (a.put d v').tmps := by
  cases d with
  | none => exact h
  | some d => exact h.set d hv

theorem put_defers (a : Act) (d : Option Tmp) (v : Value) : (a.put d v).defers = a.defers := by cases d <;> rfl

section
variable {P : Program} {C : Cfg} (hC : C.OK P) {call : FuncId → Array Value → AH → Option (Value × AH)} (hcall : ∀ f args h v h', call f args h = some (v, h') → CallOK P f args h v h')
  (hnext : ∀ f args h v h', call f args h = some (v, h') → h.next ≤ h'.next)
include hC hcall hnext

theorem aops_ok {ro : Option Nat} {dp : Nat} {ops : Array Oper} {Q : Exit → Act → World → Prop} : ∀ (l : List Nat) (τ : Array Value) (h : AH) (τ' : Array Value) (h' : AH), aops P C call ops l τ h = some (τ', h') →
    ∀ (N : Emb) (w : World) (a : Act), CRel N τ a.tmps → HRel P N h w → Fresh N h h' →
    (∀ N' a' w', CRel N' τ' a'.tmps → a'.defers = a.defers → Ext P N h w N' h' w' → Q .normal a' w') → wpOpsIn (wideR ro) dp P ops Q l a w
  | [], τ, h, τ', h', ha, N, w, a, hτ, hr, hf, hq => by
    simp only [aops, Option.some.injEq, Prod.mk.injEq] at ha
    obtain ⟨rfl, rfl⟩ := ha
    exact hq N a w hτ rfl (Ext.refl hr)
  | i :: l, τ, h, τ', h', ha, N, w, a, hτ, hr, hf, hq => by
    unfold aops at ha
    unfold wpOpsIn
    split at ha
    · rename_i ho
      simp only [ho]
      exact aops_ok l _ _ _ _ ha N w a hτ hr hf hq
    · rename_i o ho
      obtain ⟨hgk, ha⟩ := cond_some ha
      simp only [ho, wanted_rel hτ o hgk]
      cases hw : Region.wanted o (yielded ops τ) with
      | false =>
        rw [hw] at ha
        simp only [Bool.false_eq_true, if_false]
        refine ⟨fun _ _ => trivial, ?_⟩
        exact aops_ok l _ _ _ _ ha N w _ (putT_rel hτ o.dst (undef_rel N)) hr hf (fun N' a' w' h1 h2 h3 => hq N' a' w' h1 (by rw [h2, put_defers]) h3)
      | true =>
        rw [hw] at ha
        simp only [if_true]
        simp only [cond_true] at ha
        obtain ⟨hok, ha⟩ := cond_some ha
        have hρ : ∀ x ∈ o.op.operands, VRel N (evalT τ x) (a.eval x) := fun x hx => eval_rel hτ (okOps_mem hok hx)
        split at ha
        · rename_i v hv
          obtain ⟨v', h1, h2⟩ := apure_ok hv N w a.eval hρ
          refine op_value ro dp h1 ?_
          exact aops_ok l _ _ _ _ ha N w _ (putT_rel hτ o.dst h2) hr hf (fun N' a' w' h3 h4 h5 => hq N' a' w' h3 (by rw [h4, put_defers]) h5)
        · split at ha
          · rename_i v h1 hi
            have hn1 := aimp_next hnext hi
            have hn2 := aops_next hnext _ _ _ _ _ ha
            have hf1 : Fresh N h h1 := fun k x y => hf k x (Nat.lt_of_lt_of_le y hn2)
            refine Oper.wpIn_mono ?_ (ImpOK.wpIn (aimp_ok hC hcall hi) ro dp N w a hρ hr hf1 Q)
            rintro a' w' ⟨N', v', rfl, hv, hE⟩
            have hf2 : Fresh N' h1 h' := fun k x y => by
              cases hk : N' k with
              | none => rfl
              | some e =>
                cases hk0 : N k with
                | some f => rw [hf k (Nat.le_trans hn1 x) y] at hk0; cases hk0
                | none => have := (hE.new k e hk hk0).2.1; omega
            exact aops_ok l _ _ _ _ ha N' w' _ (putT_rel (hτ.mono hE.le) o.dst hv) hE.rel hf2 (fun N2 a2 w2 h3 h4 h5 => hq N2 a2 w2 h3 (by rw [h4, put_defers]) (hE.trans h5 hf1))
          · cases ha
end

theorem aresult_ok {P : Program} {N : Emb} {τ τ' : Array Value} {h : AH} {w : World} {r : ResultVar} {v : Value} (ha : aresult P τ h r = some v) (hτ : CRel N τ τ') (hr : HRel P N h w) :
    ∃ v', (match r with | .tmp t => (pure (τ'.getD t undef) : Sem Value) | .cell a t => do loadVar t (← asAddr (τ'.getD a undef))).run P w = .ok v' w ∧ VRel N v v' := by
  cases r with
  | tmp t =>
    simp only [aresult, Option.some.injEq] at ha
    subst ha
    exact ⟨_, rfl, getD_rel hτ t⟩
  | cell a t =>
    simp only [aresult] at ha
    have hg := getD_rel hτ a
    split at ha
    · rename_i ad had
      rw [had] at hg
      obtain ⟨v', h1, h2⟩ := aload_ok ha hg hr
      obtain ⟨e, he, e2⟩ := hg.addr
      refine ⟨v', ?_, h2⟩
      rw [e2] at h1
      simp only [e2]
      simpa [Instr.loadAt, Instr.sureAddr, asAddr] using h1
    · cases ha

theorem aresults_ok {P : Program} {N : Emb} {τ τ' : Array Value} {h : AH} {w : World} (hτ : CRel N τ τ') (hr : HRel P N h w) : ∀ (rs : List ResultVar) (vs : List Value), aresults P τ h rs = some vs →
    ∃ vs', (rs.mapM (m := Sem) fun | .tmp t => pure (τ'.getD t undef) | .cell a t => do loadVar t (← asAddr (τ'.getD a undef))).run P w = .ok vs' w ∧ CRel N ⟨vs⟩ ⟨vs'⟩
  | [], vs, ha => by
    simp only [aresults, Option.some.injEq] at ha
    subst ha
    exact ⟨[], by simp, rfl, by simp⟩
  | r :: rs, vs, ha => by
    unfold aresults at ha
    split at ha
    · cases ha
    · rename_i v hv
      split at ha
      · cases ha
      · rename_i us hus
        cases ha
        obtain ⟨v', h1, h2⟩ := aresult_ok hv hτ hr
        obtain ⟨us', h3, h4⟩ := aresults_ok hτ hr rs us hus
        refine ⟨v' :: us', ?_, ?_⟩
        · rw [List.mapM_cons]
          simp only [Sem.run_bind, h1, Result.andThen_ok, h3, Sem.run_pure]
        · have := CRel.append (a := [v]) (a' := [v']) (.one h2) h4
          simpa using this

theorem aresultV_ok {P : Program} {N : Emb} {fn : Func} {τ τ' : Array Value} {h : AH} {w : World} {v : Value} (ha : aresultV P τ h fn.results.toList = some v) (hτ : CRel N τ τ') (hr : HRel P N h w) :
    ∃ v', (results fn τ').run P w = .ok v' w ∧ VRel N v v' := by
  unfold aresultV at ha
  have key : ∀ vs, aresults P τ h fn.results.toList = some vs → ∃ vs' : List Value, (results fn τ').run P w = .ok (if h : vs'.toArray.size = 1 then vs'.toArray[0] else .tuple vs'.toArray) w ∧ CRel N ⟨vs⟩ ⟨vs'⟩ := by
    intro vs hvs
    obtain ⟨vs', h1, h2⟩ := aresults_ok hτ hr _ _ hvs
    refine ⟨vs', ?_, h2⟩
    have hm : (fn.results.mapM (m := Sem) fun | .tmp t => pure (τ'.getD t undef) | .cell a t => do loadVar t (← asAddr (τ'.getD a undef))).run P w = .ok vs'.toArray w := by
      rw [Array.mapM_eq_mapM_toList, Sem.run_map, h1]
      rfl
    have hdef : results fn τ' = ((fn.results.mapM (m := Sem) fun | .tmp t => pure (τ'.getD t undef) | .cell a t => do loadVar t (← asAddr (τ'.getD a undef))) >>= fun vs => pure (if h : vs.size = 1 then vs[0] else .tuple vs)) := rfl
    rw [hdef, Sem.run_bind, hm]
    rfl
  split at ha
  · rename_i u hu
    cases ha
    obtain ⟨vs', h1, h2⟩ := key _ hu
    have hl : vs'.length = 1 := by have := h2.1; simpa using this.symm
    match vs', hl with
    | [v'], _ =>
      refine ⟨v', by rw [h1]; rfl, ?_⟩
      exact h2.2 0 v v' rfl rfl
  · rename_i vs hne hvs
    cases ha
    obtain ⟨vs', h1, h2⟩ := key _ hvs
    have hl : vs.length = vs'.length := by simpa using h2.1
    have hn1 : ¬ vs'.toArray.size = 1 := by
      intro q
      have q' : vs.length = 1 := by rw [hl]; simpa using q
      match vs, q' with
      | [u], _ => exact hne u rfl
    refine ⟨.tuple vs'.toArray, by rw [h1, dif_neg hn1], .tuple _ _ h2.1 h2.2⟩
  · cases ha

end Go.Ev

/-
  The abstract evaluator: what comes before what in a region that draws its order (EvO).
-/
namespace Go.Ev

/-- One row of 'Region.before'. -/
def rowOf (acc : Array Nat) (o : Oper) : Nat := o.after.foldl (fun s e => if Region.binds .any e then s ||| 2 ^ e.on ||| acc.getD e.on 0 else s) 0

theorem before_eq (ops : Array Oper) : Region.before ops = ops.toList.foldl (fun acc o => acc.push (rowOf acc o)) #[] := by
  unfold Region.before rowOf
  rw [← Array.foldl_toList]

theorem fold_size : ∀ (l : List Oper) (acc : Array Nat), (l.foldl (fun acc o => acc.push (rowOf acc o)) acc).size = acc.size + l.length
  | [], acc => by simp
  | o :: l, acc => by simp [fold_size l]; omega

theorem fold_old : ∀ (l : List Oper) (acc : Array Nat) (i : Nat), i < acc.size → (l.foldl (fun acc o => acc.push (rowOf acc o)) acc)[i]? = acc[i]?
  | [], acc, i, _ => rfl
  | o :: l, acc, i, h => by
    simp only [List.foldl_cons]
    rw [fold_old l _ i (by simp; omega), Array.getElem?_push_lt h, Array.getElem?_eq_getElem h]

theorem fold_at : ∀ (l : List Oper) (acc : Array Nat) (j : Nat) (o : Oper), l[j]? = some o →
    ∃ pre : Array Nat, pre.size = acc.size + j ∧ (∀ i, i < pre.size → (l.foldl (fun acc o => acc.push (rowOf acc o)) acc)[i]? = pre[i]?) ∧
      (l.foldl (fun acc o => acc.push (rowOf acc o)) acc)[acc.size + j]? = some (rowOf pre o)
  | [], acc, j, o, h => by simp at h
  | p :: l, acc, 0, o, h => by
    simp at h
    subst h
    refine ⟨acc, by simp, fun i hi => fold_old (p :: l) acc i hi, ?_⟩
    simp only [List.foldl_cons, Nat.add_zero]
    rw [fold_old l _ acc.size (by simp)]
    simp
  | p :: l, acc, j + 1, o, h => by
    obtain ⟨pre, h1, h2, h3⟩ := fold_at l (acc.push (rowOf acc p)) j o (by simpa using h)
    refine ⟨pre, by rw [h1]; simp; omega, fun i hi => by simp only [List.foldl_cons]; exact h2 i hi, ?_⟩
    simp only [List.foldl_cons]
    have e : acc.size + (j + 1) = (acc.push (rowOf acc p)).size + j := by simp; omega
    rw [e]
    exact h3

theorem row_bit (acc : Array Nat) (i : Nat) : ∀ (l : List Edge) (s : Nat), (l.foldl (fun s e => if Region.binds .any e then s ||| 2 ^ e.on ||| acc.getD e.on 0 else s) s).testBit i = true →
    s.testBit i = true ∨ ∃ e ∈ l, Region.binds .any e = true ∧ (e.on = i ∨ (acc.getD e.on 0).testBit i = true)
  | [], s, h => .inl h
  | e :: l, s, h => by
    simp only [List.foldl_cons] at h
    rcases row_bit acc i l _ h with h1 | ⟨f, hf, h2⟩
    · split at h1
      · rename_i hb
        rw [Nat.testBit_or, Nat.testBit_or] at h1
        simp only [Bool.or_eq_true] at h1
        rcases h1 with (h1 | h1) | h1
        · exact .inl h1
        · rw [Nat.testBit_two_pow] at h1
          simp at h1
          exact .inr ⟨e, by simp, hb, .inl h1⟩
        · exact .inr ⟨e, by simp, hb, .inr h1⟩
      · exact .inl h1
    · exact .inr ⟨f, by simp [hf], h2⟩

/-- Why one operation comes before another. -/
theorem before_bit {ops : Array Oper} {i j : Nat} (h : bitOf (Region.before ops) i j = true) :
    ∃ o, ops[j]? = some o ∧ ∃ e ∈ o.after, Region.binds .any e = true ∧ (e.on = i ∨ (e.on < j ∧ bitOf (Region.before ops) i e.on = true)) := by
  unfold bitOf at h
  rw [before_eq] at h
  have hj : j < ops.toList.length := by
    rcases Nat.lt_or_ge j ops.toList.length with x | x
    · exact x
    · rw [Array.getD_eq_getD_getElem?, Array.getElem?_eq_none (by rw [fold_size]; simp at x ⊢; omega)] at h
      simp at h
  obtain ⟨pre, h1, h2, h3⟩ := fold_at ops.toList #[] j ops.toList[j] (List.getElem?_eq_getElem hj)
  simp only [List.size_toArray, List.length_nil, Nat.zero_add] at h1 h3
  rw [Array.getD_eq_getD_getElem?, h3] at h
  simp only [Option.getD_some] at h
  refine ⟨ops.toList[j], by simp, ?_⟩
  unfold rowOf at h
  rw [← Array.foldl_toList] at h
  rcases row_bit pre i _ 0 h with h4 | ⟨e, he, hb, h5⟩
  · simp at h4
  · refine ⟨e, Array.mem_toList_iff.1 he, hb, ?_⟩
    rcases h5 with h5 | h5
    · exact .inl h5
    · right
      have hlt : e.on < j := by
        rcases Nat.lt_or_ge e.on j with x | x
        · exact x
        · rw [Array.getD_eq_getD_getElem?, Array.getElem?_eq_none (by omega)] at h5
          simp at h5
      refine ⟨hlt, ?_⟩
      unfold bitOf
      rw [before_eq, Array.getD_eq_getD_getElem?, h2 e.on (by omega), ← Array.getD_eq_getD_getElem?]
      exact h5

/-- What is listed brings along what it comes behind. -/
def Closed (ops : Array Oper) (L : Nat → Bool) : Prop := ∀ k o, ops[k]? = some o → L k = true → ∀ e ∈ o.after, Region.binds .any e = true → L e.on = true

theorem closed_bit {ops : Array Oper} {L : Nat → Bool} (hL : Closed ops L) : ∀ (k i : Nat), L k = true → bitOf (Region.before ops) i k = true → L i = true := by
  intro k
  induction k using Nat.strongRecOn with
  | _ k ih =>
    intro i hk hb
    obtain ⟨o, ho, e, he, hbi, h⟩ := before_bit hb
    have h1 := hL k o ho hk e he hbi
    rcases h with h | ⟨h2, h3⟩
    · rw [← h]; exact h1
    · exact ih e.on h2 i h1 h3

theorem ready_bit {ops : Array Oper} {L : Nat → Bool} (hL : Closed ops L) {j i : Nat} {o : Oper} (ho : ops[j]? = some o) (hr : ∀ e ∈ o.after, Region.binds .any e = true → L e.on = true) (hb : bitOf (Region.before ops) i j = true) : L i = true := by
  obtain ⟨o', ho', e, he, hbi, h⟩ := before_bit hb
  rw [ho] at ho'
  cases ho'
  have h1 := hr e he hbi
  rcases h with h | ⟨_, h3⟩
  · rw [← h]; exact h1
  · exact closed_bit hL e.on i h1 h3

/-- An operation on a part of the heap, seen on the whole of it. -/
theorem ext_frame {P : Program} {N0 N N' : Emb} {h0 H hin h' H' : AH} {w0 w w' : World} (E1 : Ext P N0 h0 w0 N H w) (E2 : Ext P N hin w N' h' w')
    (hfr : ∀ i, h0.next ≤ i → i < H.next → N0 i = none) (hsub : ∀ i o, hin.get i = some o → H.get i = some o)
    (hH : ∀ i o, H'.get i = some o → h'.get i = some o ∨ (H.get i = some o ∧ hin.get i = none))
    (hfN : ∀ i, hin.next ≤ i → i < h'.next → N i = none)
    (hn0 : h0.next ≤ hin.next) (hn1 : h'.next ≤ H'.next) (hn2 : H.next = H'.next) (hlow : H'.low ≤ H.low) (hold : ∀ i, i < h0.next → i < H'.low → H'.get i = h0.get i) :
    Ext P N0 h0 w0 N' H' w' := by
  -- where an old name of the part lies, seen from the start
  have loc : ∀ k o f, hin.get k = some o → N k = some f → (w0.heap.size ≤ f.r ∨ ∃ j p g, h0.get j = some p ∧ N0 j = some g ∧ g.r = f.r) := by
    intro k o f hk hf
    have hkH := hsub k o hk
    cases hN0 : N0 k with
    | some g =>
      have := E1.le k g hN0
      rw [hf] at this
      cases this
      rcases E1.alive k o hkH with ⟨p, hp⟩ | ⟨q1, q2⟩
      · exact .inr ⟨k, p, f, hp, hN0, rfl⟩
      · rw [hfr k q1 q2] at hN0; cases hN0
    | none => exact (E1.new k f hf hN0).2.2
  have back : ∀ i o, H'.get i = some o → hin.get i = none → h'.get i = none → H.get i = some o := fun i o h1 h2 h3 => by
    rcases hH i o h1 with q | q
    · rw [h3] at q; cases q
    · exact q.1
  -- a name of the whole that is none of the part stays as it lies
  have stay : ∀ i o e, H.get i = some o → hin.get i = none → N i = some e → w'.heap[e.r]? = w.heap[e.r]? := by
    intro i o e h1 h2 h3
    obtain ⟨e', o', h4, h5, _⟩ := E1.rel.here i o h1
    rw [h3] at h4
    cases h4
    refine E2.keep e.r (lt_of_some h5) ?_
    intro k p f hk hf hrf
    have := E1.rel.inj i k o p e f h1 (hsub k p hk) h3 hf hrf.symm
    subst this
    rw [h2] at hk; cases hk
  refine { le := Emb.le_trans E1.le E2.le, new := ?_, newF := ?_, rel := ⟨?_, ?_, ?_, ?_, E2.rel.req⟩, size := Nat.le_trans E1.size E2.size, keep := ?_, tape := by rw [E2.tape, E1.tape], os := by rw [E2.os, E1.os], output := by rw [E2.output, E1.output],
           alive := ?_, nxt := by rw [← hn2]; exact E1.nxt, low := Nat.le_trans hlow E1.low, old := hold }
  · intro i e hi hn
    cases hNi : N i with
    | some f =>
      have := E2.le i f hNi
      rw [hi] at this
      cases this
      obtain ⟨q1, q2, q3⟩ := E1.new i e hNi hn
      exact ⟨q1, by rw [← hn2]; exact q2, q3⟩
    | none =>
      obtain ⟨q1, q2, q3⟩ := E2.new i e hi hNi
      refine ⟨by omega, by omega, ?_⟩
      rcases q3 with q3 | ⟨k, o, f, hk, hf, hrf⟩
      · exact .inl (Nat.le_trans E1.size q3)
      · rcases loc k o f hk hf with q | ⟨j, p, g, h1, h2, h3⟩
        · exact .inl (by rw [← hrf]; exact q)
        · exact .inr ⟨j, p, g, h1, h2, by rw [h3, hrf]⟩
  · intro b c hb hn
    cases hNb : N.F b with
    | some c' => exact E1.newF b c' hNb hn
    | none =>
      rcases E2.newF b c hb hNb with q | ⟨k, o, f, hk, hf, hrf⟩
      · exact .inl (Nat.le_trans E1.size q)
      · rcases loc k o f hk hf with q | ⟨j, p, g, h1, h2, h3⟩
        · exact .inl (by rw [← hrf]; exact q)
        · exact .inr ⟨j, p, g, h1, h2, by rw [h3, hrf]⟩
  · intro i o hi
    rcases hH i o hi with h1 | ⟨h1, h2⟩
    · exact E2.rel.here i o h1
    · obtain ⟨e, o', h3, h4, h5⟩ := E1.rel.here i o h1
      exact ⟨e, o', E2.le i e h3, by rw [stay i o e h1 h2 h3]; exact h4, h5.mono E2.le⟩
  · intro i j o p e f hi hj he hf hef
    have one : ∀ i j o p e f, h'.get i = some o → H.get j = some p → hin.get j = none → N' i = some e → N' j = some f → e.r = f.r → False := by
      intro i j o p e f h1 h2 h3 he hf hef
      obtain ⟨g, p', h4, h5, _⟩ := E1.rel.here j p h2
      have := E2.le j g h4
      rw [hf] at this
      cases this
      have hlt := lt_of_some h5
      -- i is alive behind the operation: an old name of the part, or a new one
      cases hNi : N i with
      | some k =>
        have := E2.le i k hNi
        rw [he] at this
        cases this
        rcases E2.alive i o h1 with ⟨q, hq⟩ | ⟨q1, q2⟩
        · have := E1.rel.inj i j q p e f (hsub i q hq) h2 hNi h4 hef
          subst this
          rw [h3] at hq; cases hq
        · rw [hfN i q1 q2] at hNi; cases hNi
      | none =>
        obtain ⟨_, _, q3⟩ := E2.new i e he hNi
        rcases q3 with q3 | ⟨k, x, y, hk, hy, hxy⟩
        · omega
        · have := E1.rel.inj k j x p y f (hsub k x hk) h2 hy h4 (by rw [hxy, hef])
          subst this
          rw [h3] at hk; cases hk
    rcases hH i o hi with h1 | ⟨h1, h2⟩ <;> rcases hH j p hj with h3 | ⟨h3, h4⟩
    · exact E2.rel.inj i j o p e f h1 h3 he hf hef
    · exact (one i j o p e f h1 h3 h4 he hf hef).elim
    · exact (one j i p o f e h3 h1 h2 hf he hef.symm).elim
    · obtain ⟨g, _, h5, _⟩ := E1.rel.here i o h1
      obtain ⟨k, _, h6, _⟩ := E1.rel.here j p h3
      have a1 := E2.le i g h5
      have a2 := E2.le j k h6
      rw [he] at a1
      rw [hf] at a2
      cases a1; cases a2
      exact E1.rel.inj i j o p e f h1 h3 h5 h6 hef
  · intro i o hi
    rcases hH i o hi with h1 | ⟨h1, _⟩
    · have := E2.rel.ids i o h1; omega
    · rw [← hn2]; exact E1.rel.ids i o h1
  · intro b c hb
    refine ⟨(E2.rel.froz b c hb).1, fun i o e hi he => ?_⟩
    rcases hH i o hi with h1 | ⟨h1, h2⟩
    · exact (E2.rel.froz b c hb).2 i o e h1 he
    · obtain ⟨g, o', h3, h4, _⟩ := E1.rel.here i o h1
      have := E2.le i g h3
      rw [he] at this
      cases this
      cases hNb : N.F b with
      | some c' => exact (E1.rel.froz b c' hNb).2 i o e h1 h3
      | none =>
        rcases E2.newF b c hb hNb with q | ⟨k, p, f, hk, hf, hrf⟩
        · have := lt_of_some h4; omega
        · intro heb
          have := E1.rel.inj i k o p e f h1 (hsub k p hk) h3 hf (by rw [heb, hrf])
          subst this
          rw [h2] at hk; cases hk
  · intro b hb hk
    rw [E2.keep b (Nat.lt_of_lt_of_le hb E1.size) ?_, E1.keep b hb hk]
    intro k o f hk' hf hrf
    rcases loc k o f hk' hf with q | ⟨j, p, g, h1, h2, h3⟩
    · omega
    · exact hk j p g h1 h2 (by rw [h3, hrf])
  · intro i o hi
    rcases hH i o hi with h1 | ⟨h1, _⟩
    · rcases E2.alive i o h1 with ⟨q, hq⟩ | ⟨q1, q2⟩
      · rcases E1.alive i q (hsub i q hq) with x | ⟨x, y⟩
        · exact .inl x
        · exact .inr ⟨x, by omega⟩
      · exact .inr ⟨by omega, by omega⟩
    · rcases E1.alive i o h1 with x | ⟨x, y⟩
      · exact .inl x
      · exact .inr ⟨x, by omega⟩

end Go.Ev

/-
  The abstract evaluator: the record of a region that draws its order (EvQ).
-/
namespace Go.Ev

abbrev dstAt (ops : Array Oper) (j : Nat) : Option Tmp := (ops[j]?).bind (·.dst)

/-- One operation, recorded. -/
inductive Step (P : Program) (ops : Array Oper) (h0 : AH) (rs : List Rec) (g : AH) (τ : Array Value) (o : Oper) : Bool → Rec → Bool → AH → Prop
  | skip (p : Bool) (hg : gok ops τ o = true) (hw : Region.wanted o (yielded ops τ) = false) : Step P ops h0 rs g τ o p ⟨false, false, undef, [], g.next, g.next, g, none, none, 0⟩ p g
  | pure (p : Bool) (v : Value) (hg : gok ops τ o = true) (hw : Region.wanted o (yielded ops τ) = true) (hok : okOps o = true) (hp : PureOK P o (evalT τ) v) : Step P ops h0 rs g τ o p ⟨false, false, v, [], g.next, g.next, g, none, none, 0⟩ p g
  | read (p : Bool) (c : Nat) (v : Value) (hg : gok ops τ o = true) (hw : Region.wanted o (yielded ops τ) = true) (hok : okOps o = true) (hr : aread P (evalT τ) o h0.blocks = some (c, v)) (hcl : clean c rs = true) :
      Step P ops h0 rs g τ o p ⟨false, false, v, [], g.next, g.next, g, some c, none, 0⟩ p g
  | readL (p : Bool) (k : Nat) (v : Value) (hg : gok ops τ o = true) (hw : Region.wanted o (yielded ops τ) = true) (hok : okOps o = true) (hr : loosed P (evalT τ) o (Region.before ops) rs = some (k, v)) :
      Step P ops h0 rs g τ o p ⟨false, false, v, [], g.next, g.next, g, none, some [k], 0⟩ p g
  | float (v : Value) (h' : AH) (hg : gok ops τ o = true) (hw : Region.wanted o (yielded ops τ) = true) (hok : okOps o = true)
      (hi : ImpOK P o (evalT τ) ⟨g.next, g.next, gather (fun i => bitOf (Region.before ops) i rs.length) rs h0.blocks⟩ v h') (hn : g.next ≤ h'.next) (hl : g.next ≤ h'.low) :
      Step P ops h0 rs g τ o false ⟨true, false, v, newest g.next h'.next h'.blocks, g.next, h'.next, g, none, none, 0⟩ false ⟨h'.next, g.low, newest g.next h'.next h'.blocks ++ g.blocks⟩
  | loose (p : Bool) (v : Value) (h' : AH) (hg : gok ops τ o = true) (hw : Region.wanted o (yielded ops τ) = true) (hok : okOps o = true)
      (hi : ImpOK P o (evalT τ) ⟨g.next, g.next, []⟩ v h') (hn : g.next ≤ h'.next) (hl : g.next ≤ h'.low) :
      Step P ops h0 rs g τ o p ⟨true, false, v, newest g.next h'.next h'.blocks, g.next, h'.next, g, none, none, 1⟩ p ⟨h'.next, g.low, cond p g.blocks (newest g.next h'.next h'.blocks ++ g.blocks)⟩
  | seq (p : Bool) (hin : AH) (v : Value) (h' : AH) (hg : gok ops τ o = true) (hw : Region.wanted o (yielded ops τ) = true) (hok : okOps o = true)
      (hh : (p = true ∧ hin = { g with low := g.next, blocks := absorb (Region.before ops) rs.length rs ++ g.blocks }) ∨ (p = false ∧ hin = ⟨g.next, g.next, gather (fun i => bitOf (Region.before ops) i rs.length) rs h0.blocks⟩))
      (hi : ImpOK P o (evalT τ) hin v h') (hn : g.next ≤ h'.next) (hb : heapBefore (Region.before ops) rs.length rs = true) (tch : Option (List Nat))
      (ht : ∀ l, tch = some l → ∀ c, c < hin.next → l.any (Nat.beq c) = false → h'.get c = hin.get c) (hrd : readsOk (Region.before ops) rs.length ⟨true, true, v, [], g.next, h'.next, { h' with low := min g.low h'.low }, none, tch, h'.low⟩ rs = true) :
      Step P ops h0 rs g τ o p ⟨true, true, v, [], g.next, h'.next, { h' with low := min g.low h'.low }, none, tch, h'.low⟩ true { h' with low := min g.low h'.low }

inductive Run (P : Program) (ops : Array Oper) (h0 : AH) (τ0 : Array Value) : List Rec → Bool → AH → Array Value → Prop
  | nil : Run P ops h0 τ0 [] false h0 τ0
  | cons {rs : List Rec} {p : Bool} {g : AH} {τ : Array Value} {o : Oper} {r : Rec} {p' : Bool} {g' : AH} (hr : Run P ops h0 τ0 rs p g τ) (ho : ops[rs.length]? = some o) (hs : Step P ops h0 rs g τ o p r p' g') :
      Run P ops h0 τ0 (r :: rs) p' g' (putT τ o.dst r.v)

theorem storeA_get {h h' : AH} {a : Addr} {vs : List Value} (hs : storeA h a vs = some h') {c : Nat} (hc : c ≠ a.block) : h'.get c = h.get c := by
  unfold storeA at hs
  split at hs
  · cases hs; rfl
  · split at hs
    · obtain ⟨_, hs⟩ := cond_some hs
      cases hs
      exact look_setB_ne hc _ h.blocks
    · cases hs

theorem touchOf_ok {P : Program} {C : Cfg} {call : FuncId → Array Value → AH → Option (Value × AH)} {ρ : Operand → Value} {o : Oper} {h h' : AH} {v : Value} {l : List Nat} {c : Nat} (hi : aimp P C call ρ o h = some (v, h')) (hl : touchOf ρ o = some l)
    (hc : c < h.next) (hn : l.any (Nat.beq c) = false) : h'.get c = h.get c := by
  unfold touchOf at hl
  split at hl
  · rename_i t x y hop
    have e1 : acallee P ρ o = none := by simp [acallee, hop]
    have e2 : aident C ρ o = none := by simp [aident, hop]
    split at hl
    · rename_i a ha
      cases hl
      have hca : c ≠ a.block := by
        intro q
        rw [q] at hn
        simp at hn
      simp only [aimp, e1, e2, aheap, hop] at hi
      split at hi
      · rename_i h1 hs
        cases hi
        unfold astore at hs
        rw [ha] at hs
        simp only at hs
        split at hs
        · obtain ⟨_, hs⟩ := cond_some hs
          exact storeA_get hs hca
        · cases hs
      · cases hi
    · cases hl
  · rename_i s x t u hop
    have e1 : acallee P ρ o = none := by simp [acallee, hop]
    have e2 : aident C ρ o = none := by simp [aident, hop]
    simp only [aimp, e1, e2, aheap, hop] at hi
    split at hl
    · rename_i a n k ha
      cases hl
      have hca : c ≠ a.block := by
        intro q
        rw [q] at hn
        simp at hn
      unfold aappendX at hi
      rw [ha] at hi
      simp only at hi
      unfold aappend at hi
      split at hi
      · rename_i e d base sLen sCap _ _ he
        cases he
        split at hi
        · cases hi
        · split at hi
          · cases hi
          · split at hi
            · cases hi
            · obtain ⟨_, hi⟩ := cond_some hi
              rcases cond_cases hi with ⟨_, hi⟩ | ⟨_, hi⟩
              · simp only at hi
                split at hi
                · cases hi
                · rename_i h1 hs
                  cases hi
                  exact storeA_get hs (by rw [show (a.add _).block = a.block by unfold Addr.add; split <;> rfl]; exact hca)
              · obtain ⟨_, hi⟩ := cond_some hi
                simp only at hi
                split at hi
                · obtain ⟨_, hi⟩ := cond_some hi
                  cases hi
                  exact Eq.trans (look_cons_ne (by simp only [AH.del]; omega) _ _) (look_delB_ne hca h.blocks)
                · cases hi
      · cases hi
    · rename_i n k ha
      cases hl
      unfold aappendX at hi
      rw [ha] at hi
      simp only at hi
      unfold aappend at hi
      split at hi
      · rename_i e d base sLen sCap _ _ he
        cases he
        split at hi
        · cases hi
        · split at hi
          · cases hi
          · split at hi
            · cases hi
            · obtain ⟨_, hi⟩ := cond_some hi
              rcases cond_cases hi with ⟨_, hi⟩ | ⟨_, hi⟩
              · cases hi; rfl
              · obtain ⟨_, hi⟩ := cond_some hi
                simp only at hi
                obtain ⟨_, hi⟩ := cond_some hi
                cases hi
                exact look_cons_ne (by omega) _ _
      · cases hi
    · cases hl
  · cases hl

theorem look_filter {q : Nat → Bool} {i : Nat} : ∀ l : List (Nat × Obj), look i (l.filter fun p => q p.1) = cond (q i) (look i l) none
  | [] => by cases q i <;> rfl
  | (j, x) :: l => by
    have ih := look_filter (q := q) (i := i) l
    by_cases hji : j = i
    · subst hji
      cases hq : q j with
      | true => simp only [List.filter_cons, hq, if_true, look, Nat.beq_refl, cond_true]
      | false =>
        rw [hq] at ih
        simp only [List.filter_cons, hq, Bool.false_eq_true, if_false, cond_false]
        exact ih
    · have hb : Nat.beq j i = false := by
        cases hb : Nat.beq j i with
        | false => rfl
        | true => exact (hji (Nat.eq_of_beq_eq_true hb)).elim
      cases hq : q j with
      | true =>
        simp only [List.filter_cons, hq, if_true, look, hb, cond_false]
        exact ih
      | false =>
        simp only [List.filter_cons, hq, Bool.false_eq_true, if_false, look, hb, cond_false]
        exact ih
theorem remB_get (cs : List Nat) (h : AH) (i : Nat) : (remB cs h).get i = cond (cs.any (Nat.beq i)) none (h.get i) := by
  cases cs with
  | nil => rfl
  | cons c cs =>
    show look i (h.blocks.filter fun p => !(c :: cs).any (Nat.beq p.1)) = _
    rw [look_filter (q := fun k => !(c :: cs).any (Nat.beq k))]
    cases (c :: cs).any (Nat.beq i) <;> rfl
theorem look_app (i : Nat) (b : List (Nat × Obj)) : ∀ a : List (Nat × Obj), look i (a ++ b) = match look i a with
    | some o => some o
    | none => look i b
  | [] => rfl
  | (j, p) :: a => by
    simp only [List.cons_append, look]
    cases Nat.beq j i with
    | true => rfl
    | false => exact look_app i b a
theorem putB_get (cs : List Nat) (h0 h : AH) (i : Nat) : (putB cs h0 h).get i = cond (cs.any (Nat.beq i)) (h0.get i) (h.get i) := by
  cases cs with
  | nil => rfl
  | cons c cs =>
    show look i ((h.blocks.filter fun p => !(c :: cs).any (Nat.beq p.1)) ++ (h0.blocks.filter fun p => (c :: cs).any (Nat.beq p.1))) = _
    rw [look_app, look_filter (q := fun k => !(c :: cs).any (Nat.beq k)), look_filter (q := fun k => (c :: cs).any (Nat.beq k))]
    cases (c :: cs).any (Nat.beq i) with
    | true => rfl
    | false =>
      show (match look i h.blocks with
        | some o => some o
        | none => none) = look i h.blocks
      cases look i h.blocks <;> rfl
theorem remB_low (cs : List Nat) (h : AH) : (remB cs h).low = h.low := by cases cs <;> rfl
theorem putB_low (cs : List Nat) (h0 h : AH) : (putB cs h0 h).low = h.low := by cases cs <;> rfl

/-- What an operation does not see stays. -/
theorem ImpOK.frame {P : Program} {o : Oper} {ρ : Operand → Value} {h h2 : AH} {v : Value} (cs : List Nat) (hi : ImpOK P o ρ (remB cs h) v h2) : ImpOK P o ρ h v (putB cs h h2) := by
  intro N w a hρ hr hf Q
  have hsub : ∀ i x, (remB cs h).get i = some x → h.get i = some x := fun i x hx => by
    rw [remB_get] at hx
    cases hb : cs.any (Nat.beq i) with
    | true => rw [hb] at hx; cases hx
    | false => rw [hb] at hx; exact hx
  have hrel : HRel P N (remB cs h) w := ⟨fun i x hx => hr.here i x (hsub i x hx), fun i k x y e f hx hy he hf hef => hr.inj i k x y e f (hsub i x hx) (hsub k y hy) he hf hef,
    fun i x hx => by rw [remB_next]; exact hr.ids i x (hsub i x hx), fun b c hb => ⟨(hr.froz b c hb).1, fun i x e hx he => (hr.froz b c hb).2 i x e (hsub i x hx) he⟩, hr.req⟩
  have hfN : Fresh N (remB cs h) h2 := fun i q1 q2 => hf i (by rw [remB_next] at q1; exact q1) (by rw [putB_next]; exact q2)
  refine Oper.wp_mono ?_ (hi N w a hρ hrel hfN Q)
  rintro a' w' ⟨N', v', rfl, hv, hE2⟩
  refine ⟨N', v', rfl, hv, ?_⟩
  have hnx : h.next ≤ h2.next := by have := hE2.nxt; rw [remB_next] at this; exact this
  have E1 : Ext P N h w N ⟨h2.next, h.low, h.blocks⟩ w := {
    le := Emb.le_refl N
    new := fun i e a b => by rw [a] at b; cases b
    newF := fun i e a b => by rw [a] at b; cases b
    rel := ⟨hr.here, hr.inj, fun i x hx => Nat.lt_of_lt_of_le (hr.ids i x hx) hnx, hr.froz, hr.req⟩
    size := Nat.le_refl _
    keep := fun _ _ _ => rfl
    tape := rfl
    os := rfl
    output := rfl
    alive := fun i x hx => .inl ⟨x, hx⟩
    nxt := hnx
    low := Nat.le_refl _
    old := fun _ _ _ => rfl }
  refine ext_frame E1 hE2 (fun i q1 q2 => hf i q1 (by rw [putB_next]; exact q2)) hsub ?_ hfN (by rw [remB_next]; exact Nat.le_refl _) (by rw [putB_next]; exact Nat.le_refl _) (by rw [putB_next]) (by rw [putB_low]; have := hE2.low; rw [remB_low] at this; exact this) ?_
  · intro i x hx
    rw [putB_get] at hx
    cases hb : cs.any (Nat.beq i) with
    | true => rw [hb] at hx; exact .inr ⟨hx, by rw [remB_get, hb]; rfl⟩
    | false => rw [hb] at hx; exact .inl hx
  · intro i q1 q2
    rw [putB_low] at q2
    rw [putB_get]
    cases hb : cs.any (Nat.beq i) with
    | true => rfl
    | false =>
      have := hE2.old i (by rw [remB_next]; exact q1) q2
      rw [remB_get, hb] at this
      exact this
theorem aimpF_ok {P : Program} {C : Cfg} (hC : C.OK P) {call : FuncId → Array Value → AH → Option (Value × AH)} (hcall : ∀ f args h v h', call f args h = some (v, h') → CallOK P f args h v h')
    {ρ : Operand → Value} {o : Oper} {cs : List Nat} {h h' : AH} {v : Value} (ha : aimpF P C call ρ o cs h = some (v, h')) : ImpOK P o ρ h v h' := by
  unfold aimpF at ha
  split at ha
  · rename_i u k hi
    cases ha
    exact ImpOK.frame cs (aimp_ok hC hcall hi)
  · cases ha
theorem tchB_ok {P : Program} {C : Cfg} {call : FuncId → Array Value → AH → Option (Value × AH)} {ρ : Operand → Value} {o : Oper} {cs : List Nat} {h h' : AH} {v : Value} {n : Nat} {l : List Nat} {c : Nat} (hi : aimpF P C call ρ o cs h = some (v, h')) (hnn : h.next = n) (hl : tchB cs n (touchOf ρ o) = some l)
    (hc : c < h.next) (hn : l.any (Nat.beq c) = false) : h'.get c = h.get c := by
  unfold aimpF at hi
  split at hi
  · rename_i u k hi2
    cases hi
    cases cs with
    | nil => exact touchOf_ok hi2 hl hc hn
    | cons x xs =>
      unfold tchB at hl
      cases hl
      rw [putB_get]
      cases hb : (x :: xs).any (Nat.beq c) with
      | true => rfl
      | false =>
        exfalso
        rw [List.any_eq_false] at hn
        have hm : c ∈ (List.range n).filter fun c => !(x :: xs).any (Nat.beq c) := by
          rw [List.mem_filter]
          exact ⟨by rw [List.mem_range]; omega, by rw [hb]; rfl⟩
        exact hn c hm (Nat.beq_refl c)
  · cases hi

theorem drop_cons {ops : Array Oper} {k : Nat} {o : Oper} {l : List Oper} (h : ops.toList.drop k = o :: l) : ops[k]? = some o ∧ ops.toList.drop (k + 1) = l := by
  constructor
  · have : (ops.toList.drop k)[0]? = some o := by rw [h]; rfl
    rw [List.getElem?_drop] at this
    simpa using this
  · rw [← List.drop_drop, h]; rfl

theorem aloose_imp {P : Program} {C : Cfg} {call : FuncId → Array Value → AH → Option (Value × AH)} {ρ : Operand → Value} {o : Oper} {n : Nat} {v : Value} {h : AH} (ha : aloose P ρ o n = some (v, h)) : aimp P C call ρ o ⟨n, n, []⟩ = some (v, h) := by
  unfold aloose at ha
  split at ha
  · rename_i t hop
    have e1 : acallee P ρ o = none := by simp [acallee, hop]
    have e2 : aident C ρ o = none := by simp [aident, hop]
    simp only [aimp, e1, e2, aheap, hop]
    exact ha
  · rename_i t len parts hop
    have e1 : acallee P ρ o = none := by simp [acallee, hop]
    have e2 : aident C ρ o = none := by simp [aident, hop]
    simp only [aimp, e1, e2, aheap, hop]
    exact ha
  · cases ha

section
variable {P : Program} {C : Cfg} (hC : C.OK P) {call : FuncId → Array Value → AH → Option (Value × AH)} (hcall : ∀ f args h v h', call f args h = some (v, h') → CallOK P f args h v h')
  (hnext : ∀ f args h v h', call f args h = some (v, h') → h.next ≤ h'.next)
include hC hcall hnext

theorem adraw_run {ops : Array Oper} {h0 : AH} {τ0 : Array Value} : ∀ (l : List Oper) (recs : List Rec) (p : Bool) (g : AH) (τ τ' : Array Value) (g' : AH), Run P ops h0 τ0 recs p g τ → ops.toList.drop recs.length = l →
    adraw P C call ops (Region.before ops) h0.blocks l recs p g τ = some (τ', g') → ∃ recs' p' gn, Run P ops h0 τ0 recs' p' gn τ' ∧ g' = finalH (Region.before ops) p' recs' gn ∧ recs'.length = ops.size
  | [], recs, p, g, τ, τ', g', hr, hl, ha => by
    simp only [adraw, Option.some.injEq, Prod.mk.injEq] at ha
    obtain ⟨rfl, rfl⟩ := ha
    refine ⟨recs, p, g, hr, rfl, ?_⟩
    have h1 : ops.size ≤ recs.length := by simpa using hl
    have h2 : recs.length ≤ ops.size := by
      cases hr with
      | nil => simp
      | cons _ ho _ =>
        have := (Array.getElem?_eq_some_iff.1 ho).1
        simp; omega
    omega
  | o :: l, recs, p, g, τ, τ', g', hr, hl, ha => by
    obtain ⟨ho, hl'⟩ := drop_cons hl
    unfold adraw at ha
    obtain ⟨hg, ha⟩ := cond_some ha
    cases hw : Region.wanted o (yielded ops τ) with
    | false =>
      rw [hw] at ha
      simp only [cond_false] at ha
      exact adraw_run l _ _ _ _ _ _ (.cons hr ho (.skip p hg hw)) (by simpa using hl') ha
    | true =>
      rw [hw] at ha
      simp only [cond_true] at ha
      obtain ⟨hok, ha⟩ := cond_some ha
      split at ha
      · rename_i v h' hlo
        cases hc : Nat.blt h'.low g.next with
        | true => rw [hc] at ha; cases ha
        | false =>
          rw [hc] at ha
          simp only [cond_false] at ha
          have hlow : g.next ≤ h'.low := by
            rcases Nat.lt_or_ge h'.low g.next with q | q
            · have : Nat.blt h'.low g.next = true := Nat.ble_eq_true_of_le q
              rw [this] at hc; cases hc
            · exact q
          exact adraw_run l _ _ _ _ _ _ (.cons hr ho (.loose p v h' hg hw hok (aimp_ok hC hcall (aloose_imp hlo)) (aloose_next hlo) hlow)) (by simpa using hl') ha
      split at ha
      · rename_i v hv
        exact adraw_run l _ _ _ _ _ _ (.cons hr ho (.pure p v hg hw hok (apure_ok hv))) (by simpa using hl') ha
      split at ha
      · rename_i c v hst
        unfold steady at hst
        split at hst
        · rename_i c' v' hrd
          obtain ⟨hcl, hst2⟩ := cond_some hst
          cases hst2
          exact adraw_run l _ _ _ _ _ _ (.cons hr ho (.read p c v hg hw hok hrd hcl)) (by simpa using hl') ha
        · cases hst
      split at ha
      · rename_i k v hlo
        exact adraw_run l _ _ _ _ _ _ (.cons hr ho (.readL p k v hg hw hok hlo)) (by simpa using hl') ha
      · split at ha
        · cases ha
        · rename_i v h' hi
          have hin := aimpF_ok hC hcall hi
          have hn := aimpF_next hnext hi
          have hnx : (cond p { g with low := g.next, blocks := absorb (Region.before ops) recs.length recs ++ g.blocks } { next := g.next, low := g.next, blocks := gather (fun i => bitOf (Region.before ops) i recs.length) recs h0.blocks } : AH).next = g.next := by cases p <;> rfl
          have hti := fun l hl c => tchB_ok (c := c) (l := l) hi hnx hl
          rw [hnx] at hn
          rcases cond_cases ha with ⟨hc, ha1⟩ | ⟨hc, ha1⟩
          · obtain ⟨hb, ha2⟩ := cond_some ha1
            simp only [Bool.and_eq_true] at hb
            refine adraw_run l _ _ _ _ _ _ (.cons hr ho (.seq p _ v h' hg hw hok ?_ hin hn hb.1 _ hti hb.2)) (by simpa using hl') ha2
            cases p
            · exact .inr ⟨rfl, rfl⟩
            · exact .inl ⟨rfl, rfl⟩
          · simp only [Bool.or_eq_false_iff] at hc
            obtain ⟨rfl, hc⟩ := hc
            have hlow : g.next ≤ h'.low := by
              rcases Nat.lt_or_ge h'.low g.next with q | q
              · have : Nat.blt h'.low g.next = true := Nat.ble_eq_true_of_le q
                rw [this] at hc; cases hc
              · exact q
            exact adraw_run l _ _ _ _ _ _ (.cons hr ho (.float v h' hg hw hok hin hn hlow)) (by simpa using hl') ha1
end

section facts
variable {P : Program} {ops : Array Oper} {h0 : AH} {τ0 : Array Value}

theorem Step.next {rs : List Rec} {g : AH} {τ : Array Value} {o : Oper} {p p' : Bool} {r : Rec} {g' : AH} (h : Step P ops h0 rs g τ o p r p' g') : r.s = g.next ∧ r.e = g'.next ∧ r.s ≤ r.e := by
  cases h with
  | skip p hg hw => exact ⟨rfl, rfl, Nat.le_refl _⟩
  | pure p v hg hw hok hp => exact ⟨rfl, rfl, Nat.le_refl _⟩
  | read p c v hg hw hok hr hcl => exact ⟨rfl, rfl, Nat.le_refl _⟩
  | readL p k v hg hw hok hr => exact ⟨rfl, rfl, Nat.le_refl _⟩
  | float v h' hg hw hok hi hn hl => exact ⟨rfl, rfl, hn⟩
  | loose p v h' hg hw hok hi hn hl => exact ⟨rfl, rfl, hn⟩
  | seq p hin v h' hg hw hok hh hi hn hb tch ht hrd => exact ⟨rfl, rfl, hn⟩

theorem Run.next_le {rs : List Rec} {p : Bool} {g : AH} {τ : Array Value} (h : Run P ops h0 τ0 rs p g τ) : h0.next ≤ g.next := by
  induction h with
  | nil => exact Nat.le_refl _
  | cons hr ho hs ih => have := hs.next; omega

/-- What some of the operations leave in the temporaries. -/
def tmpsF (ops : Array Oper) (τ0 : Array Value) (sel : Nat → Bool) : List Rec → Array Value
  | [] => τ0
  | r :: rs => cond (sel rs.length) (putT (tmpsF ops τ0 sel rs) (dstAt ops rs.length) r.v) (tmpsF ops τ0 sel rs)

theorem tmpsF_all {rs : List Rec} {p : Bool} {g : AH} {τ : Array Value} (h : Run P ops h0 τ0 rs p g τ) : τ = tmpsF ops τ0 (fun _ => true) rs := by
  induction h with
  | nil => rfl
  | cons hr ho hs ih => simp only [tmpsF, cond_true, dstAt, ho, Option.bind_some, ← ih]

theorem putT_size (τ : Array Value) (d : Option Tmp) (v : Value) : (putT τ d v).size = τ.size := by cases d <;> simp [putT]

theorem tmpsF_size (sel : Nat → Bool) : ∀ rs : List Rec, (tmpsF ops τ0 sel rs).size = τ0.size
  | [] => rfl
  | r :: rs => by
    unfold tmpsF
    cases sel rs.length
    · exact tmpsF_size sel rs
    · simp only [cond_true, putT_size]; exact tmpsF_size sel rs

theorem putT_other {τ : Array Value} {d : Option Tmp} {t : Tmp} (h : d ≠ some t) (v : Value) : (putT τ d v)[t]? = τ[t]? := by
  cases d with
  | none => rfl
  | some d => exact Array.getElem?_setIfInBounds_ne (fun e => h (by rw [e]))

theorem putT_same {τ τ' : Array Value} (t : Nat) (v : Value) (h : τ.size = τ'.size) : (putT τ (some t) v)[t]? = (putT τ' (some t) v)[t]? := by
  simp only [putT]
  by_cases ht : t < τ.size
  · rw [Array.getElem?_setIfInBounds_self_of_lt ht, Array.getElem?_setIfInBounds_self_of_lt (h ▸ ht)]
  · rw [Array.getElem?_eq_none (by rw [Array.size_setIfInBounds]; omega), Array.getElem?_eq_none (by rw [Array.size_setIfInBounds]; omega)]

/-- A temporary that an operation looks at: what is listed has laid what the text's order lays. -/
theorem tmpsF_below {L : Nat → Bool} {t : Tmp} : ∀ (rs : List Rec), (∀ k, k < rs.length → dstAt ops k = some t → L k = true) → (tmpsF ops τ0 L rs)[t]? = (tmpsF ops τ0 (fun _ => true) rs)[t]?
  | [], _ => rfl
  | r :: rs, h => by
    have ih := tmpsF_below (L := L) rs (fun k hk => h k (by simp; omega))
    simp only [tmpsF, cond_true]
    by_cases hd : dstAt ops rs.length = some t
    · rw [h rs.length (by simp) hd]
      simp only [cond_true, hd]
      exact putT_same t r.v (by rw [tmpsF_size, tmpsF_size])
    · rw [putT_other hd]
      cases L rs.length
      · exact ih
      · simp only [cond_true]; rw [putT_other hd]; exact ih

theorem tmpsF_above {L : Nat → Bool} {t : Tmp} {rs : List Rec} : ∀ (pre : List Rec), (∀ k, rs.length ≤ k → k < (pre ++ rs).length → dstAt ops k = some t → L k = false) → (tmpsF ops τ0 L (pre ++ rs))[t]? = (tmpsF ops τ0 L rs)[t]?
  | [], _ => rfl
  | r :: pre, h => by
    have ih := tmpsF_above (L := L) (rs := rs) pre (fun k h1 h2 => h k h1 (by simp at h2 ⊢; omega))
    simp only [List.cons_append, tmpsF]
    cases hL : L (pre ++ rs).length with
    | false => exact ih
    | true =>
      simp only [cond_true]
      rw [putT_other ?_]
      · exact ih
      · intro hd
        rw [h (pre ++ rs).length (by simp) (by simp) hd] at hL
        cases hL

theorem putT_comm {τ : Array Value} {d e : Option Tmp} (h : ∀ t, d = some t → e ≠ some t) (v u : Value) : putT (putT τ d v) e u = putT (putT τ e u) d v := by
  cases d with
  | none => rfl
  | some d =>
    cases e with
    | none => rfl
    | some e => exact Array.setIfInBounds_comm _ _ (fun q => h d rfl (by rw [q]))

theorem tmpsF_congr {L L' : Nat → Bool} : ∀ (rs : List Rec), (∀ k, k < rs.length → L k = L' k) → tmpsF ops τ0 L rs = tmpsF ops τ0 L' rs
  | [], _ => rfl
  | r :: rs, h => by
    simp only [tmpsF, h rs.length (by simp), tmpsF_congr rs (fun k hk => h k (by simp; omega))]

/-- One more is listed. -/
def addL (L : Nat → Bool) (j : Nat) : Nat → Bool := fun k => Nat.beq k j || L k

theorem addL_self (L : Nat → Bool) (j : Nat) : addL L j j = true := by simp [addL]
theorem addL_ne (L : Nat → Bool) {j k : Nat} (h : k ≠ j) : addL L j k = L k := by simp [addL, beq_no h]

theorem tmpsF_add {L : Nat → Bool} {r : Rec} {rs : List Rec} (hj : L rs.length = false) : ∀ (pre : List Rec),
    (∀ k, rs.length < k → k < (pre ++ r :: rs).length → L k = true → ∀ t, dstAt ops k = some t → dstAt ops rs.length ≠ some t) →
    tmpsF ops τ0 (addL L rs.length) (pre ++ r :: rs) = putT (tmpsF ops τ0 L (pre ++ r :: rs)) (dstAt ops rs.length) r.v
  | [], _ => by
    simp only [List.nil_append, tmpsF, addL_self, cond_true, hj, cond_false]
    rw [tmpsF_congr rs (fun k hk => addL_ne L (by omega))]
  | q :: pre, h => by
    have ih := tmpsF_add (r := r) (rs := rs) hj pre (fun k h1 h2 => h k h1 (by simp at h2 ⊢; omega))
    simp only [List.cons_append, tmpsF]
    have hlen : (pre ++ r :: rs).length ≠ rs.length := by simp; omega
    rw [addL_ne L hlen]
    cases hL : L (pre ++ r :: rs).length with
    | false => exact ih
    | true =>
      simp only [cond_true]
      rw [ih]
      apply putT_comm
      intro t ht he
      exact h (pre ++ r :: rs).length (by simp; omega) (by simp) hL t he ht

end facts

end Go.Ev

/-
  The abstract evaluator: the heap of a region that draws its order (EvR).
-/
namespace Go.Ev

theorem look_append_some {i : Nat} {o : Obj} {b : List (Nat × Obj)} : ∀ {a : List (Nat × Obj)}, look i a = some o → look i (a ++ b) = some o
  | (j, p) :: a, h => by
    simp only [List.cons_append, look] at h ⊢
    cases hb : Nat.beq j i with
    | true => rw [hb] at h; exact h
    | false => rw [hb] at h; exact look_append_some h

theorem look_append_none {i : Nat} {b : List (Nat × Obj)} : ∀ {a : List (Nat × Obj)}, look i a = none → look i (a ++ b) = look i b
  | [], _ => rfl
  | (j, p) :: a, h => by
    simp only [List.cons_append, look] at h ⊢
    cases hb : Nat.beq j i with
    | true => rw [hb] at h; cases h
    | false => rw [hb] at h; exact look_append_none h

theorem newest_look {s e i : Nat} {o : Obj} : ∀ {l : List (Nat × Obj)}, look i (newest s e l) = some o → s ≤ i ∧ i < e ∧ look i l = some o
  | [], h => by simp [newest, look] at h
  | (j, p) :: l, h => by
    unfold newest at h
    rw [List.takeWhile_cons] at h
    split at h
    · rename_i hc
      simp only [Bool.and_eq_true] at hc
      simp only [look] at h ⊢
      cases hb : Nat.beq j i with
      | true =>
        rw [hb] at h
        have := Nat.eq_of_beq_eq_true hb
        subst this
        exact ⟨Nat.le_of_ble_eq_true hc.1, Nat.le_of_ble_eq_true hc.2, h⟩
      | false =>
        rw [hb] at h
        exact newest_look h
    · simp [look] at h

theorem gather_cons (sel : Nat → Bool) (r : Rec) (rs : List Rec) (base : List (Nat × Obj)) :
    gather sel (r :: rs) base = cond (sel rs.length) (r.new ++ gather sel rs base) (gather sel rs base) := by
  have e : gather sel (r :: rs) base = (match r.new with
    | [] => gather sel rs base
    | new => cond (sel rs.length) (new ++ gather sel rs base) (gather sel rs base)) := rfl
  rw [e]
  split
  · rename_i h; rw [h]; cases sel rs.length <;> rfl
  · rfl

def recAt : List Rec → Nat → Option Rec
  | [], _ => none
  | r :: rs, k => cond (Nat.beq k rs.length) (some r) (recAt rs k)

theorem recAt_lt {k : Nat} {r : Rec} : ∀ {R : List Rec}, recAt R k = some r → k < R.length
  | q :: R, h => by
    unfold recAt at h
    cases hb : Nat.beq k R.length with
    | true => have := Nat.eq_of_beq_eq_true hb; simp; omega
    | false => rw [hb] at h; have := recAt_lt h; simp; omega

theorem recAt_split {k : Nat} {r : Rec} : ∀ {R : List Rec}, recAt R k = some r → ∃ pre rs, R = pre ++ r :: rs ∧ rs.length = k
  | q :: R, h => by
    unfold recAt at h
    cases hb : Nat.beq k R.length with
    | true => rw [hb] at h; cases h; exact ⟨[], R, rfl, (Nat.eq_of_beq_eq_true hb).symm⟩
    | false =>
      rw [hb] at h
      obtain ⟨pre, rs, h1, h2⟩ := recAt_split h
      exact ⟨q :: pre, rs, by rw [h1]; rfl, h2⟩

theorem recAt_self (r : Rec) (rs : List Rec) : ∀ pre : List Rec, recAt (pre ++ r :: rs) rs.length = some r
  | [] => by simp [recAt]
  | q :: pre => by
    simp only [List.cons_append, recAt]
    rw [beq_no (by simp; omega)]
    exact recAt_self r rs pre

theorem recAt_old {rs : List Rec} {k : Nat} (h : k < rs.length) : ∀ pre : List Rec, recAt (pre ++ rs) k = recAt rs k
  | [] => rfl
  | q :: pre => by
    simp only [List.cons_append, recAt]
    rw [beq_no (by simp; omega)]
    exact recAt_old h pre

theorem recAt_some {k : Nat} : ∀ {R : List Rec}, k < R.length → ∃ r, recAt R k = some r
  | [], h => by simp at h
  | q :: R, h => by
    unfold recAt
    cases hb : Nat.beq k R.length with
    | true => exact ⟨q, rfl⟩
    | false =>
      have : k ≠ R.length := by intro e; rw [e, Nat.beq_refl] at hb; cases hb
      exact recAt_some (by simp at h; omega)

section
variable {P : Program} {ops : Array Oper} {h0 : AH} {τ0 : Array Value}

theorem recAt_mem : ∀ {rs : List Rec} {k : Nat} {q : Rec}, recAt rs k = some q → q ∈ rs
  | [], k, q, h => by simp [recAt] at h
  | x :: rs, k, q, h => by
    unfold recAt at h
    cases hk : Nat.beq k rs.length with
    | true => rw [hk] at h; cases h; simp
    | false => rw [hk] at h; exact List.mem_cons_of_mem _ (recAt_mem h)

theorem Run.split {r : Rec} {rs : List Rec} : ∀ {pre : List Rec} {p : Bool} {g : AH} {τ : Array Value}, Run P ops h0 τ0 (pre ++ r :: rs) p g τ →
    ∃ p1 g1 τ1 o p2 g2, Run P ops h0 τ0 rs p1 g1 τ1 ∧ ops[rs.length]? = some o ∧ Step P ops h0 rs g1 τ1 o p1 r p2 g2 ∧ g2.next ≤ g.next
  | [], p, g, τ, h => by
    cases h with
    | cons hr ho hs => exact ⟨_, _, _, _, _, _, hr, ho, hs, Nat.le_refl _⟩
  | q :: pre, p, g, τ, h => by
    cases h with
    | cons hr ho hs =>
      obtain ⟨p1, g1, τ1, o, p2, g2, h1, h2, h3, h4⟩ := Run.split hr
      have := hs.next
      exact ⟨p1, g1, τ1, o, p2, g2, h1, h2, h3, by omega⟩

theorem Step.newIn {rs : List Rec} {g : AH} {τ : Array Value} {o : Oper} {p p' : Bool} {r : Rec} {g' : AH} (h : Step P ops h0 rs g τ o p r p' g') {i : Nat} {x : Obj} (hx : look i r.new = some x) : r.s ≤ i ∧ i < r.e := by
  cases h with
  | skip => simp [look] at hx
  | pure => simp [look] at hx
  | read => simp [look] at hx
  | readL => simp [look] at hx
  | float v h' => exact ⟨(newest_look hx).1, (newest_look hx).2.1⟩
  | loose p v h' => exact ⟨(newest_look hx).1, (newest_look hx).2.1⟩
  | seq => simp [look] at hx

theorem Step.pureNew {rs : List Rec} {g : AH} {τ : Array Value} {o : Oper} {p p' : Bool} {r : Rec} {g' : AH} (h : Step P ops h0 rs g τ o p r p' g') (hh : r.heap = false) : r.new = [] := by
  cases h with
  | skip => rfl
  | pure => rfl
  | read => rfl
  | readL => rfl
  | float => cases hh
  | loose => cases hh
  | seq => cases hh

theorem gather_in {rs : List Rec} {p : Bool} {g : AH} {τ : Array Value} (h : Run P ops h0 τ0 rs p g τ) (sel : Nat → Bool) {i : Nat} {x : Obj} (hx : look i (gather sel rs h0.blocks) = some x) :
    (h0.next ≤ i ∧ i < g.next) ∨ look i h0.blocks = some x := by
  induction h with
  | nil => exact .inr hx
  | @cons rs p g τ o r p' g' hr ho hs ih =>
    rw [gather_cons] at hx
    have hn := hs.next
    have h1 := hr.next_le
    have below : look i (gather sel rs h0.blocks) = some x → (h0.next ≤ i ∧ i < g'.next) ∨ look i h0.blocks = some x := fun q => by
      rcases ih q with q | q
      · exact .inl (by omega)
      · exact .inr q
    cases hs' : sel rs.length with
    | false => rw [hs'] at hx; exact below hx
    | true =>
      rw [hs'] at hx
      simp only [cond_true] at hx
      cases hl : look i r.new with
      | none => rw [look_append_none hl] at hx; exact below hx
      | some y => have := hs.newIn hl; exact .inl (by omega)

theorem gather_old {rs : List Rec} {p : Bool} {g : AH} {τ : Array Value} (h : Run P ops h0 τ0 rs p g τ) (sel : Nat → Bool) {i : Nat} (hi : i < h0.next) : look i (gather sel rs h0.blocks) = look i h0.blocks := by
  induction h with
  | nil => rfl
  | @cons rs p g τ o r p' g' hr ho hs ih =>
    rw [gather_cons]
    cases hs' : sel rs.length with
    | false => exact ih
    | true =>
      simp only [cond_true]
      cases hl : look i r.new with
      | none => rw [look_append_none hl]; exact ih
      | some y => have := hs.newIn hl; have := hs.next; have := hr.next_le; omega

theorem gather_mono {rs : List Rec} {p : Bool} {g : AH} {τ : Array Value} (h : Run P ops h0 τ0 rs p g τ) (hb : ∀ i x, look i h0.blocks = some x → i < h0.next) {sel sel' : Nat → Bool} (hsub : ∀ k, k < rs.length → sel k = true → sel' k = true)
    {i : Nat} {x : Obj} (hx : look i (gather sel rs h0.blocks) = some x) : look i (gather sel' rs h0.blocks) = some x := by
  induction h with
  | nil => exact hx
  | @cons rs p g τ o r p' g' hr ho hs ih =>
    rw [gather_cons] at hx ⊢
    have ih := ih (fun k hk => hsub k (by simp; omega))
    cases h1 : sel rs.length with
    | true =>
      rw [h1] at hx
      rw [hsub rs.length (by simp) h1]
      simp only [cond_true] at hx ⊢
      cases hl : look i r.new with
      | none => rw [look_append_none hl] at hx ⊢; exact ih hx
      | some y => rw [look_append_some hl] at hx ⊢; exact hx
    | false =>
      rw [h1] at hx
      simp only [cond_false] at hx
      cases h2 : sel' rs.length with
      | false => exact ih hx
      | true =>
        simp only [cond_true]
        cases hl : look i r.new with
        | none => rw [look_append_none hl]; exact ih hx
        | some y =>
          exfalso
          have h3 := hs.newIn hl
          have h4 := hs.next
          have h5 := hr.next_le
          rcases gather_in hr sel hx with q | q
          · omega
          · have := hb i x q; omega

theorem gather_prefix {sel : Nat → Bool} {rs : List Rec} {base : List (Nat × Obj)} : ∀ (pre : List Rec), (∀ k, rs.length ≤ k → k < (pre ++ rs).length → sel k = false) → gather sel (pre ++ rs) base = gather sel rs base
  | [], _ => rfl
  | q :: pre, h => by
    rw [List.cons_append, gather_cons, h (pre ++ rs).length (by simp) (by simp)]
    exact gather_prefix pre (fun k h1 h2 => h k h1 (by simp at h2 ⊢; omega))

theorem gather_congr {sel sel' : Nat → Bool} {base : List (Nat × Obj)} : ∀ (rs : List Rec), (∀ k, k < rs.length → sel k = sel' k) → gather sel rs base = gather sel' rs base
  | [], _ => rfl
  | r :: rs, h => by rw [gather_cons, gather_cons, h rs.length (by simp), gather_congr rs (fun k hk => h k (by simp; omega))]

/-- What does not touch memory brings nothing: only the others count. -/
theorem gather_heap {sel sel' : Nat → Bool} {rs : List Rec} {p : Bool} {g : AH} {τ : Array Value} (h : Run P ops h0 τ0 rs p g τ) (hs : ∀ k r, recAt rs k = some r → r.heap = true → sel k = sel' k) :
    gather sel rs h0.blocks = gather sel' rs h0.blocks := by
  induction h with
  | nil => rfl
  | @cons rs p g τ o r p' g' hr ho hst ih =>
    have ih := ih (fun k q hq hh => hs k q (by rw [recAt, beq_no (by have := recAt_lt hq; omega)]; exact hq) hh)
    rw [gather_cons, gather_cons, ih]
    cases hh : r.heap with
    | true => rw [hs rs.length r (by simp [recAt]) hh]
    | false => rw [hst.pureNew hh]; cases sel rs.length <;> cases sel' rs.length <;> rfl

theorem gather_add {L : Nat → Bool} {r : Rec} {rs : List Rec} {base : List (Nat × Obj)} {i : Nat} {x : Obj} (hj : L rs.length = false) : ∀ (pre : List Rec), look i (gather (addL L rs.length) (pre ++ r :: rs) base) = some x →
    look i r.new = some x ∨ look i (gather L (pre ++ r :: rs) base) = some x
  | [], h => by
    simp only [List.nil_append] at h ⊢
    rw [gather_cons, addL_self, gather_congr rs (fun k hk => addL_ne L (by omega))] at h
    rw [gather_cons, hj]
    simp only [cond_true, cond_false] at h ⊢
    cases hl : look i r.new with
    | none => rw [look_append_none hl] at h; exact .inr h
    | some y => rw [look_append_some hl] at h; exact .inl h
  | q :: pre, h => by
    rw [List.cons_append, gather_cons, addL_ne L (by simp; omega)] at h
    rw [List.cons_append, gather_cons]
    cases hL : L (pre ++ r :: rs).length with
    | false => rw [hL] at h; exact gather_add hj pre h
    | true =>
      rw [hL] at h
      simp only [cond_true] at h ⊢
      cases hl : look i q.new with
      | some y => rw [look_append_some hl] at h ⊢; exact .inr h
      | none =>
        rw [look_append_none hl] at h ⊢
        exact gather_add hj pre h

theorem Run.phase1 {rs : List Rec} {p : Bool} {g : AH} {τ : Array Value} (h : Run P ops h0 τ0 rs p g τ) (hp : p = false) :
    g.blocks = gather (fun _ => true) rs h0.blocks ∧ g.low = h0.low ∧ ∀ k r, recAt rs k = some r → r.sq = false := by
  induction h with
  | nil => exact ⟨rfl, rfl, fun k r h => by simp [recAt] at h⟩
  | @cons rs p g τ o r p' g' hr ho hs ih =>
    subst hp
    have key : ∀ (_ : p = false) (hq : r.sq = false), (∀ k q, recAt rs k = some q → q.sq = false) → ∀ k q, recAt (r :: rs) k = some q → q.sq = false := by
      intro _ hq hall k q hk
      unfold recAt at hk
      cases hb : Nat.beq k rs.length with
      | true => rw [hb] at hk; cases hk; exact hq
      | false => rw [hb] at hk; exact hall k q hk
    rw [gather_cons]
    cases hs with
    | skip hw => obtain ⟨h1, h2, h3⟩ := ih rfl; exact ⟨h1, h2, key rfl rfl h3⟩
    | pure v hw hok hp => obtain ⟨h1, h2, h3⟩ := ih rfl; exact ⟨h1, h2, key rfl rfl h3⟩
    | read => obtain ⟨h1, h2, h3⟩ := ih rfl; exact ⟨h1, h2, key rfl rfl h3⟩
    | readL => obtain ⟨h1, h2, h3⟩ := ih rfl; exact ⟨h1, h2, key rfl rfl h3⟩
    | float v h' hg hw hok hi hn hl =>
      obtain ⟨h1, h2, h3⟩ := ih rfl
      refine ⟨?_, h2, key rfl rfl h3⟩
      simp only [cond_true]
      rw [h1]
    | loose p v h' hg hw hok hi hn hl =>
      obtain ⟨h1, h2, h3⟩ := ih rfl
      refine ⟨?_, h2, key rfl rfl h3⟩
      simp only [cond_true, cond_false]
      rw [h1]

theorem Run.phase2 {rs : List Rec} {p : Bool} {g : AH} {τ : Array Value} (h : Run P ops h0 τ0 rs p g τ) (hp : p = true) :
    ∃ k r, recAt rs k = some r ∧ r.sq = true ∧ r.after.blocks = g.blocks ∧ r.after.low = g.low ∧ r.after.next ≤ g.next ∧ ∀ l q, k < l → recAt rs l = some q → q.sq = false := by
  induction h with
  | nil => cases hp
  | @cons rs p g τ o r p' g' hr ho hs ih =>
    subst hp
    have old : ∀ (_ : p = true) (hq : r.sq = false) (_ : g'.blocks = g.blocks) (_ : g'.low = g.low) (_ : g.next ≤ g'.next), ∃ k q, recAt (r :: rs) k = some q ∧ q.sq = true ∧ q.after.blocks = g'.blocks ∧ q.after.low = g'.low ∧ q.after.next ≤ g'.next ∧ ∀ l q', k < l → recAt (r :: rs) l = some q' → q'.sq = false := by
      intro hpt hq hg hl hn
      obtain ⟨k, q, h1, h2, h3, h3l, h3n, h4⟩ := ih hpt
      refine ⟨k, q, ?_, h2, by rw [hg]; exact h3, by rw [hl]; exact h3l, Nat.le_trans h3n hn, fun l q' hl hq' => ?_⟩
      · rw [recAt, beq_no (by have := recAt_lt h1; omega)]; exact h1
      · unfold recAt at hq'
        cases hb : Nat.beq l rs.length with
        | true => rw [hb] at hq'; cases hq'; exact hq
        | false => rw [hb] at hq'; exact h4 l q' hl hq'
    cases hs with
    | skip hw => exact old rfl rfl rfl rfl (Nat.le_refl _)
    | pure v hw hok hp => exact old rfl rfl rfl rfl (Nat.le_refl _)
    | read => exact old rfl rfl rfl rfl (Nat.le_refl _)
    | readL => exact old rfl rfl rfl rfl (Nat.le_refl _)
    | loose p v h' hg hw hok hi hn hl => exact old rfl rfl rfl rfl hn
    | seq p hin v h' hg hw hok hh hi hn hb tch ht hrd =>
      refine ⟨rs.length, ⟨true, true, v, [], g.next, h'.next, { h' with low := min g.low h'.low }, none, tch, h'.low⟩, by simp [recAt], rfl, rfl, rfl, Nat.le_refl _, fun l q hl hq => ?_⟩
      have := recAt_lt hq
      simp at this
      omega

/-- A sequential operation comes behind all that touch memory. -/
theorem heapBefore_at {B : Array Nat} {j : Nat} : ∀ {rs : List Rec}, heapBefore B j rs = true → ∀ k r, recAt rs k = some r → r.heap = true → r.ls = false → bitOf B k j = true
  | [], _, k, r, h, _, _ => by simp [recAt] at h
  | q :: rs, hb, k, r, h, hh, hls => by
    simp only [heapBefore, Bool.and_eq_true, Bool.or_eq_true, Bool.not_eq_true'] at hb
    unfold recAt at h
    cases hk : Nat.beq k rs.length with
    | true =>
      rw [hk] at h
      cases h
      have := Nat.eq_of_beq_eq_true hk
      rw [this]
      rcases hb.1 with (q | q) | q
      · rw [hh] at q; cases q
      · rw [hls] at q; cases q
      · exact q
    | false => rw [hk] at h; exact heapBefore_at hb.2 k r h hh hls

/-- Behind a sequential operation all that touch memory are sequential. -/
theorem Run.seqs {R : List Rec} {p : Bool} {g : AH} {τ : Array Value} (h : Run P ops h0 τ0 R p g τ) {j k : Nat} {r q : Rec} (hj : recAt R j = some r) (hk : recAt R k = some q) (hjk : j < k) (hr : r.heap = true) (hls : r.ls = false) (hq : q.sq = true) :
    bitOf (Region.before ops) j k = true := by
  obtain ⟨pre, rs, rfl, rfl⟩ := recAt_split hk
  obtain ⟨p1, g1, τ1, o, p2, g2, h1, h2, h3, _⟩ := h.split
  have hb : heapBefore (Region.before ops) rs.length rs = true := by
    cases h3 with
    | skip => cases hq
    | pure => cases hq
    | read => cases hq
    | readL => cases hq
    | float => cases hq
    | loose => cases hq
    | seq p hin v h' hg hw hok hh hi hn hb tch ht hrd => exact hb
  rw [show pre ++ q :: rs = (pre ++ [q]) ++ rs by simp, recAt_old hjk] at hj
  exact heapBefore_at hb j r hj hr hls

theorem Run.after_seq {R : List Rec} {p : Bool} {g : AH} {τ : Array Value} (h : Run P ops h0 τ0 R p g τ) {j k : Nat} {r q : Rec} (hj : recAt R j = some r) (hk : recAt R k = some q) (hjk : j < k) (hr : r.sq = true) (hq : q.heap = true) (hls : q.ls = false) : q.sq = true := by
  obtain ⟨pre, rs, rfl, rfl⟩ := recAt_split hk
  obtain ⟨p1, g1, τ1, o, p2, g2, h1, h2, h3, _⟩ := h.split
  rw [show pre ++ q :: rs = (pre ++ [q]) ++ rs by simp, recAt_old hjk] at hj
  cases h3 with
  | skip => cases hq
  | pure => cases hq
  | read => cases hq
  | readL => cases hq
  | float v h' hg hw hok hi hn hl =>
    have := (h1.phase1 rfl).2.2 j r hj
    rw [hr] at this; cases this
  | loose => cases hls
  | seq => rfl

/-- What was read at any time: where it lay, and that nothing before it wrote there. -/
theorem Run.reads {R : List Rec} {p : Bool} {g : AH} {τ : Array Value} (h : Run P ops h0 τ0 R p g τ) {j c : Nat} {r : Rec} (hj : recAt R j = some r) (hc : r.rd = some c) :
    (∃ o, look c h0.blocks = some o) ∧ ∀ k q, k < j → recAt R k = some q → q.sq = true → q.touch c = false := by
  obtain ⟨pre, rs, rfl, rfl⟩ := recAt_split hj
  obtain ⟨p1, g1, τ1, o, p2, g2, h1, h2, h3, _⟩ := h.split
  cases h3 with
  | skip => cases hc
  | pure => cases hc
  | float => cases hc
  | loose => cases hc
  | seq => cases hc
  | readL => cases hc
  | read _ c' v hg hw hok hr hcl =>
    cases hc
    refine ⟨?_, fun k q hk hq hs => ?_⟩
    · unfold aread at hr
      split at hr
      · split at hr
        · split at hr
          · rename_i ob hob
            split at hr
            · cases hr; exact ⟨ob, hob⟩
            · cases hr
          · cases hr
        · cases hr
      · cases hr
    · rw [show ∀ x : Rec, pre ++ x :: rs = (pre ++ [x]) ++ rs from fun x => by simp, recAt_old hk] at hq
      have := List.all_eq_true.1 hcl q (recAt_mem hq)
      rw [hs] at this
      simpa using this

theorem readsOk_at {B : Array Nat} {j : Nat} {r : Rec} : ∀ {rs : List Rec}, readsOk B j r rs = true → ∀ k q c, recAt rs k = some q → q.rd = some c → r.touch c = false ∨ bitOf B k j = true
  | [], _, k, q, c, h, _ => by simp [recAt] at h
  | x :: rs, hb, k, q, c, h, hc => by
    simp only [readsOk, Bool.and_eq_true] at hb
    unfold recAt at h
    cases hk : Nat.beq k rs.length with
    | true =>
      rw [hk] at h
      cases h
      have := Nat.eq_of_beq_eq_true hk
      rw [this]
      have h1 := hb.1.1
      rw [hc] at h1
      simpa using h1
    | false => rw [hk] at h; exact readsOk_at hb.2 k q c h hc

theorem looksOk_at {B : Array Nat} {j : Nat} {r : Rec} : ∀ {rs : List Rec}, readsOk B j r rs = true → ∀ i q k l, recAt rs i = some q → q.sq = false → q.tch = some (k :: l) → bitOf B k j = false ∨ bitOf B i j = true
  | [], _, i, q, k, l, h, _, _ => by simp [recAt] at h
  | x :: rs, hb, i, q, k, l, h, hs, hc => by
    simp only [readsOk, Bool.and_eq_true] at hb
    unfold recAt at h
    cases hk : Nat.beq i rs.length with
    | true =>
      rw [hk] at h
      cases h
      have := Nat.eq_of_beq_eq_true hk
      rw [this]
      have h1 := hb.1.2
      rw [hs, hc] at h1
      simpa using h1
    | false => rw [hk] at h; exact looksOk_at hb.2 i q k l h hs hc

theorem Run.looks {R : List Rec} {p : Bool} {g : AH} {τ : Array Value} (h : Run P ops h0 τ0 R p g τ) {i j k : Nat} {l : List Nat} {s r : Rec} (hi : recAt R i = some s) (hs : s.sq = true) (hj : recAt R j = some r) (hji : j < i) (hr : r.sq = false) (ht : r.tch = some (k :: l)) :
    bitOf (Region.before ops) k i = false ∨ bitOf (Region.before ops) j i = true := by
  obtain ⟨pre, rs, rfl, rfl⟩ := recAt_split hi
  obtain ⟨p1, g1, τ1, o, p2, g2, h1, h2, h3, _⟩ := h.split
  rw [show pre ++ s :: rs = (pre ++ [s]) ++ rs by simp, recAt_old hji] at hj
  cases h3 with
  | skip => cases hs
  | pure => cases hs
  | read => cases hs
  | readL => cases hs
  | float => cases hs
  | loose => cases hs
  | seq p hin v h' hg hw hok hh hi hn hb tch ht' hrd => exact looksOk_at hrd j r k l hj hr ht

theorem findL_some {c k : Nat} {ob : Obj} : ∀ {rs : List Rec}, findL c rs = some (k, ob) → ∃ q, recAt rs k = some q ∧ q.ls = true ∧ look c q.new = some ob
  | [], h => by cases h
  | r :: rs, h => by
    unfold findL at h
    split at h
    · rename_i ob' hb
      cases h
      obtain ⟨h1, h2⟩ := cond_some hb
      exact ⟨r, by simp [recAt], h1, h2⟩
    · obtain ⟨q, h1, h2, h3⟩ := findL_some h
      exact ⟨q, by rw [recAt, beq_no (by have := recAt_lt h1; omega)]; exact h1, h2, h3⟩

/-- What is sequential has touched memory, and is not loose. -/
theorem Run.sq_heap {R : List Rec} {p : Bool} {g : AH} {τ : Array Value} (h : Run P ops h0 τ0 R p g τ) {k : Nat} {r : Rec} (hk : recAt R k = some r) (hr : r.sq = true) : r.heap = true ∧ r.ls = false := by
  obtain ⟨pre, rs, rfl, rfl⟩ := recAt_split hk
  obtain ⟨_, _, _, _, _, _, _, _, h5, _⟩ := h.split
  cases h5 with
  | skip => cases hr
  | pure => cases hr
  | read => cases hr
  | readL => cases hr
  | float => cases hr
  | loose => cases hr
  | seq => exact ⟨rfl, rfl⟩

theorem Run.newIn {R : List Rec} {p : Bool} {g : AH} {τ : Array Value} (h : Run P ops h0 τ0 R p g τ) {k i : Nat} {r : Rec} {x : Obj} (hk : recAt R k = some r) (hx : look i r.new = some x) : r.s ≤ i ∧ i < r.e := by
  obtain ⟨pre, rs, rfl, rfl⟩ := recAt_split hk
  obtain ⟨_, _, _, _, _, _, _, _, h5, _⟩ := h.split
  exact h5.newIn hx

theorem Run.ranges {R : List Rec} {p : Bool} {g : AH} {τ : Array Value} (h : Run P ops h0 τ0 R p g τ) : (∀ j r, recAt R j = some r → h0.next ≤ r.s ∧ r.s ≤ r.e ∧ r.e ≤ g.next) ∧
    ∀ j k r q, j < k → recAt R j = some r → recAt R k = some q → r.e ≤ q.s := by
  induction h with
  | nil => exact ⟨fun j r h => by simp [recAt] at h, fun j k r q _ h => by simp [recAt] at h⟩
  | @cons rs p g τ o r p' g' hr ho hs ih =>
    have hn := hs.next
    have h0n := hr.next_le
    refine ⟨fun j q hq => ?_, fun j k x y hjk hx hy => ?_⟩
    · unfold recAt at hq
      cases hb : Nat.beq j rs.length with
      | true => rw [hb] at hq; cases hq; omega
      | false => rw [hb] at hq; have := ih.1 j q hq; omega
    · unfold recAt at hx hy
      cases hb : Nat.beq k rs.length with
      | true =>
        rw [hb] at hy
        cases hy
        have hk := Nat.eq_of_beq_eq_true hb
        rw [beq_no (by omega)] at hx
        have := ih.1 j x hx
        omega
      | false =>
        rw [hb] at hy
        have := recAt_lt hy
        rw [beq_no (by omega)] at hx
        exact ih.2 j k x y hjk hx hy

/-- A name belongs to one operation. -/
theorem Run.one {R : List Rec} {p : Bool} {g : AH} {τ : Array Value} (h : Run P ops h0 τ0 R p g τ) {j k i : Nat} {r q : Rec} (hj : recAt R j = some r) (hk : recAt R k = some q) (h1 : r.s ≤ i ∧ i < r.e) (h2 : q.s ≤ i ∧ i < q.e) : j = k := by
  rcases Nat.lt_trichotomy j k with x | x | x
  · have := h.ranges.2 j k r q x hj hk; omega
  · exact x
  · have := h.ranges.2 k j q r x hk hj; omega

theorem gatherL_cons (sel : Nat → Bool) (r : Rec) (rs : List Rec) : gatherL sel (r :: rs) = cond (r.ls && sel rs.length) (r.new ++ gatherL sel rs) (gatherL sel rs) := rfl

theorem gatherL_some {sel : Nat → Bool} {i : Nat} {x : Obj} : ∀ {R : List Rec}, look i (gatherL sel R) = some x → ∃ k r, recAt R k = some r ∧ r.ls = true ∧ sel k = true ∧ look i r.new = some x
  | [], h => by simp [gatherL, look] at h
  | r :: rs, h => by
    rw [gatherL_cons] at h
    have down : look i (gatherL sel rs) = some x → ∃ k q, recAt (r :: rs) k = some q ∧ q.ls = true ∧ sel k = true ∧ look i q.new = some x := fun hd => by
      obtain ⟨k, q, h1, h2⟩ := gatherL_some hd
      exact ⟨k, q, by rw [recAt, beq_no (by have := recAt_lt h1; omega)]; exact h1, h2⟩
    cases hb : (r.ls && sel rs.length) with
    | false => rw [hb] at h; exact down h
    | true =>
      rw [hb] at h
      simp only [cond_true] at h
      cases hl : look i r.new with
      | none => rw [look_append_none hl] at h; exact down h
      | some y =>
        rw [look_append_some hl] at h
        cases h
        rw [Bool.and_eq_true] at hb
        exact ⟨rs.length, r, by simp [recAt], hb.1, hb.2, hl⟩

theorem gatherL_look {R : List Rec} {p : Bool} {g : AH} {τ : Array Value} (h : Run P ops h0 τ0 R p g τ) {sel : Nat → Bool} {k i : Nat} {r : Rec} {x : Obj} (hk : recAt R k = some r) (hl : r.ls = true) (hs : sel k = true) (hx : look i r.new = some x) :
    look i (gatherL sel R) = some x := by
  cases hg : look i (gatherL sel R) with
  | some y =>
    obtain ⟨j, q, h1, _, _, h4⟩ := gatherL_some hg
    have := h.one hk h1 (h.newIn hk hx) (h.newIn h1 h4)
    subst this
    rw [hk] at h1
    cases h1
    rw [hx] at h4
    exact h4.symm
  | none =>
    exfalso
    have gen : ∀ (R : List Rec), recAt R k = some r → look i (gatherL sel R) ≠ none := by
      intro R
      induction R with
      | nil => intro h; simp [recAt] at h
      | cons q rs ih =>
        intro h hn
        rw [gatherL_cons] at hn
        unfold recAt at h
        cases hb : Nat.beq k rs.length with
        | true =>
          rw [hb] at h
          cases h
          have := Nat.eq_of_beq_eq_true hb
          subst this
          rw [hl, hs] at hn
          simp only [Bool.and_self, cond_true] at hn
          rw [look_append_some hx] at hn
          cases hn
        | false =>
          rw [hb] at h
          cases hc : (q.ls && sel rs.length) with
          | false => rw [hc] at hn; exact ih h hn
          | true =>
            rw [hc] at hn
            simp only [cond_true] at hn
            cases hq : look i q.new with
            | none => rw [look_append_none hq] at hn; exact ih h hn
            | some y => rw [look_append_some hq] at hn; cases hn
    exact gen R hk hg

/-- What is loose is new. -/
theorem gatherL_new {R : List Rec} {p : Bool} {g : AH} {τ : Array Value} (h : Run P ops h0 τ0 R p g τ) {sel : Nat → Bool} {i : Nat} {x : Obj} (hx : look i (gatherL sel R) = some x) : h0.next ≤ i ∧ i < g.next := by
  obtain ⟨k, r, h1, _, _, h4⟩ := gatherL_some hx
  have := h.newIn h1 h4
  have := h.ranges.1 k r h1
  omega
theorem gatherL_old {R : List Rec} {p : Bool} {g : AH} {τ : Array Value} (h : Run P ops h0 τ0 R p g τ) (sel : Nat → Bool) {i : Nat} (hi : i < h0.next) (l : List (Nat × Obj)) : look i (gatherL sel R ++ l) = look i l := by
  refine look_append_none ?_
  cases hx : look i (gatherL sel R) with
  | none => rfl
  | some x => have := (gatherL_new h hx).1; omega

theorem gatherL_congr {sel sel' : Nat → Bool} : ∀ {R : List Rec}, (∀ k r, recAt R k = some r → r.ls = true → sel k = sel' k) → gatherL sel R = gatherL sel' R
  | [], _ => rfl
  | r :: rs, h => by
    rw [gatherL_cons, gatherL_cons, gatherL_congr (sel' := sel') fun k q hq hl => h k q (by rw [recAt, beq_no (by have := recAt_lt hq; omega)]; exact hq) hl]
    cases hl : r.ls with
    | false => rfl
    | true => rw [h rs.length r (by simp [recAt]) hl]

theorem seqL_true {L : Nat → Bool} {B : Array Nat} {i : Nat} : ∀ {R : List Rec}, seqL L B i R = true → ∃ k r, recAt R k = some r ∧ r.sq = true ∧ L k = true ∧ bitOf B i k = true
  | [], h => by simp [seqL] at h
  | r :: rs, h => by
    unfold seqL at h
    rw [Bool.or_eq_true, Bool.and_eq_true, Bool.and_eq_true] at h
    rcases h with h | h
    · exact ⟨rs.length, r, by simp [recAt], h.1.1, h.1.2, h.2⟩
    · obtain ⟨k, q, h1, h2⟩ := seqL_true h
      exact ⟨k, q, by rw [recAt, beq_no (by have := recAt_lt h1; omega)]; exact h1, h2⟩
theorem seqL_mk {L : Nat → Bool} {B : Array Nat} {i k : Nat} {r : Rec} : ∀ {R : List Rec}, recAt R k = some r → r.sq = true → L k = true → bitOf B i k = true → seqL L B i R = true
  | q :: rs, h, h1, h2, h3 => by
    unfold seqL
    rw [Bool.or_eq_true, Bool.and_eq_true, Bool.and_eq_true]
    unfold recAt at h
    cases hb : Nat.beq k rs.length with
    | true =>
      rw [hb] at h
      cases h
      have := Nat.eq_of_beq_eq_true hb
      subst this
      exact .inl ⟨⟨h1, h2⟩, h3⟩
    | false => rw [hb] at h; exact .inr (seqL_mk h h1 h2 h3)
theorem seqL_false {L : Nat → Bool} {B : Array Nat} {i : Nat} {R : List Rec} (h : ∀ k r, recAt R k = some r → r.sq = true → L k = true → bitOf B i k = false) : seqL L B i R = false := by
  cases hc : seqL L B i R with
  | false => rfl
  | true =>
    obtain ⟨k, r, h1, h2, h3, h4⟩ := seqL_true hc
    rw [h k r h1 h2 h3] at h4
    cases h4
theorem seqL_no {L : Nat → Bool} {B : Array Nat} {i k : Nat} {r : Rec} {R : List Rec} (h : seqL L B i R = false) (hk : recAt R k = some r) (hr : r.sq = true) (hL : L k = true) : bitOf B i k = false := by
  cases hc : bitOf B i k with
  | false => rfl
  | true => rw [seqL_mk hk hr hL hc] at h; cases h

theorem gather_look {R : List Rec} {p : Bool} {g : AH} {τ : Array Value} (h : Run P ops h0 τ0 R p g τ) {sel : Nat → Bool} {k i : Nat} {r : Rec} {x : Obj} (hk : recAt R k = some r) (hs : sel k = true) (hx : look i r.new = some x) :
    look i (gather sel R h0.blocks) = some x := by
  induction h with
  | nil => simp [recAt] at hk
  | @cons rs p g τ o q p' g' hr ho hst ih =>
    have hR : Run P ops h0 τ0 (q :: rs) p' g' (putT τ o.dst q.v) := .cons hr ho hst
    rw [gather_cons]
    have hk0 := hk
    unfold recAt at hk
    cases hb : Nat.beq k rs.length with
    | true =>
      rw [hb] at hk
      cases hk
      have := Nat.eq_of_beq_eq_true hb
      subst this
      rw [hs]
      simp only [cond_true]
      exact look_append_some hx
    | false =>
      rw [hb] at hk
      have ih := ih hk
      cases hc : sel rs.length with
      | false => exact ih
      | true =>
        simp only [cond_true]
        cases hq : look i q.new with
        | none => rw [look_append_none hq]; exact ih
        | some y =>
          have := hR.one (j := k) (k := rs.length) hk0 (by simp [recAt]) (hR.newIn hk0 hx) (hst.newIn hq)
          rw [this, Nat.beq_refl] at hb
          cases hb

theorem gather_only {R : List Rec} {p : Bool} {g : AH} {τ : Array Value} (h : Run P ops h0 τ0 R p g τ) (hids : ∀ i x, look i h0.blocks = some x → i < h0.next) {sel : Nat → Bool} {k i : Nat} {r : Rec} (hk : recAt R k = some r) (hs : sel k = false) (hi : r.s ≤ i ∧ i < r.e) :
    look i (gather sel R h0.blocks) = none := by
  induction h with
  | nil => simp [recAt] at hk
  | @cons rs p g τ o q p' g' hr ho hst ih =>
    have hR : Run P ops h0 τ0 (q :: rs) p' g' (putT τ o.dst q.v) := .cons hr ho hst
    rw [gather_cons]
    have hk0 := hk
    unfold recAt at hk
    cases hb : Nat.beq k rs.length with
    | true =>
      rw [hb] at hk
      cases hk
      have := Nat.eq_of_beq_eq_true hb
      subst this
      rw [hs]
      simp only [cond_false]
      cases hg : look i (gather sel rs h0.blocks) with
      | none => rfl
      | some y =>
        exfalso
        have h1 := hst.next
        have h2 := hr.next_le
        rcases gather_in hr sel hg with x | x
        · omega
        · have := hids i y x; omega
    | false =>
      rw [hb] at hk
      have ih := ih hk
      cases hc : sel rs.length with
      | false => exact ih
      | true =>
        simp only [cond_true]
        cases hq : look i q.new with
        | none => rw [look_append_none hq]; exact ih
        | some y =>
          have := hR.one (j := k) (k := rs.length) hk0 (by simp [recAt]) hi (hst.newIn hq)
          rw [this, Nat.beq_refl] at hb
          cases hb

end

end Go.Ev

/-
  The abstract evaluator: regions that draw their order (EvS).
-/
namespace Go.Ev

end Go.Ev

/-
  The abstract evaluator: one step of a region that draws its order (EvT).
-/
namespace Go.Ev

section
variable {ops : Array Oper} (hok : drawOk ops (Region.before ops) = true)
include hok

theorem draw_edges {j : Nat} {o : Oper} (ho : ops[j]? = some o) {e : Edge} (he : e ∈ o.after) (hb : Region.binds .any e = true) : e.on < j := by
  unfold drawOk at hok
  have h1 := List.all_eq_true.1 hok (o, j) (List.mem_zipIdx_iff_getElem?.2 (by simpa using ho))
  simp only [Bool.and_eq_true] at h1
  have h2 := List.all_eq_true.1 h1.1 e (Array.mem_toList_iff.2 he)
  rw [hb] at h2
  simp only [Bool.not_true, Bool.false_or] at h2
  exact Nat.le_of_ble_eq_true h2

theorem draw_order {j k : Nat} {o : Oper} {d : Tmp} (ho : ops[j]? = some o) (hk : dstAt ops k = some d) (hd : d ∈ o.dst.toList ++ looks ops o) : k = j ∨ bitOf (Region.before ops) k j = true ∨ bitOf (Region.before ops) j k = true := by
  unfold drawOk at hok
  have h1 := List.all_eq_true.1 hok (o, j) (List.mem_zipIdx_iff_getElem?.2 (by simpa using ho))
  simp only [Bool.and_eq_true] at h1
  cases hp : ops[k]? with
  | none => simp [dstAt, hp] at hk
  | some q =>
    have hq : q.dst = some d := by simpa [dstAt, hp] using hk
    have h2 := List.all_eq_true.1 h1.2 (q, k) (List.mem_zipIdx_iff_getElem?.2 (by simpa using hp))
    simp only [hq, Bool.or_eq_true, Bool.not_eq_true'] at h2
    rcases h2 with h2 | h2
    · rw [List.contains_eq_mem] at h2
      simp at h2
      simp at hd
      exact absurd hd (by simpa using h2)
    · unfold inOrder at h2
      simp only [Bool.or_eq_true] at h2
      rcases h2 with (h2 | h2) | h2
      · exact .inl (Nat.eq_of_beq_eq_true h2)
      · exact .inr (.inl h2)
      · exact .inr (.inr h2)

theorem bit_lt : ∀ (j i : Nat), bitOf (Region.before ops) i j = true → i < j := by
  intro j
  induction j using Nat.strongRecOn with
  | _ j ih =>
    intro i hb
    obtain ⟨o, ho, e, he, hbi, h⟩ := before_bit hb
    have h1 := draw_edges hok ho he hbi
    rcases h with h | ⟨h2, h3⟩
    · omega
    · have := ih e.on h2 i h3; omega
end

/-- What holds between two operations. -/
def Inv (P : Program) (ops : Array Oper) (h0 : AH) (τ0 : Array Value) (R : List Rec) (gn : AH) (N0 : Emb) (w0 : World) (a0 : Act) (L : Nat → Bool) (a : Act) (w : World) : Prop :=
  ∃ N H, (∀ j r c, recAt R j = some r → r.rd = some c → L j = false → look c H.blocks = look c h0.blocks) ∧ CRel N (tmpsF ops τ0 L R) a.tmps ∧ a.defers = a0.defers ∧ (∀ j r, recAt R j = some r → L j = false → ∀ i, r.s ≤ i → i < r.e → N i = none) ∧ Ext P N0 h0 w0 N H w ∧ H.next = gn.next ∧
    (((∀ k r, recAt R k = some r → r.sq = true → L k = false) ∧ H.low = h0.low ∧ H.blocks = gather L R h0.blocks) ∨
     (∃ k r, recAt R k = some r ∧ r.sq = true ∧ L k = true ∧ (∀ l q, k < l → recAt R l = some q → q.sq = true → L l = false) ∧ H.low = r.after.low ∧
       H.blocks = gatherL (fun i => L i && !seqL L (Region.before ops) i R) R ++ r.after.blocks ∧ (∀ i x, look i r.after.blocks = some x → i < r.after.next) ∧
       (∀ k' q, recAt R k' = some q → q.ls = true → seqL L (Region.before ops) k' R = false → ∀ i, q.s ≤ i → i < q.e → look i r.after.blocks = none)))

theorem seqL_add {L : Nat → Bool} {B : Array Nat} {j i : Nat} {R : List Rec} {r : Rec} (hj : recAt R j = some r) (hr : r.sq = false) : seqL (addL L j) B i R = seqL L B i R := by
  cases h : seqL L B i R with
  | true =>
    obtain ⟨k, q, h1, h2, h3, h4⟩ := seqL_true h
    exact seqL_mk h1 h2 (by unfold addL; rw [h3, Bool.or_true]) h4
  | false =>
    refine seqL_false fun k q h1 h2 h3 => ?_
    have hkj : k ≠ j := by
      intro e
      rw [e, hj] at h1
      cases h1
      rw [hr] at h2; cases h2
    rw [addL_ne L hkj] at h3
    exact seqL_no h h1 h2 h3
theorem seqL_up {L : Nat → Bool} {B : Array Nat} {j i : Nat} {R : List Rec} (h : seqL (addL L j) B i R = false) : seqL L B i R = false :=
  seqL_false fun k q h1 h2 h3 => seqL_no h h1 h2 (by unfold addL; rw [h3, Bool.or_true])

theorem looks_tmp {ops : Array Oper} {o : Oper} {t : Tmp} (h : Operand.tmp t ∈ o.op.operands) : t ∈ looks ops o := by
  unfold looks
  exact List.mem_append.2 (.inl (List.mem_filterMap.2 ⟨.tmp t, Array.mem_toList_iff.2 h, rfl⟩))

theorem gather_same {L : Nat → Bool} {r : Rec} {rs : List Rec} {base : List (Nat × Obj)} (hj : L rs.length = false) (hn : r.new = []) : ∀ (pre : List Rec), gather (addL L rs.length) (pre ++ r :: rs) base = gather L (pre ++ r :: rs) base
  | [] => by
    simp only [List.nil_append]
    rw [gather_cons, gather_cons, addL_self, hj, hn, gather_congr rs (fun k hk => addL_ne L (by omega))]
    rfl
  | q :: pre => by
    rw [List.cons_append, gather_cons, gather_cons, addL_ne L (by simp; omega), gather_same hj hn pre]

theorem inv_step (ro : Option Nat) (dp : Nat) {P : Program} {ops : Array Oper} (hok : drawOk ops (Region.before ops) = true) {h0 : AH} {τ0 : Array Value} {R : List Rec} {p : Bool} {gn : AH} {τn : Array Value} (hR : Run P ops h0 τ0 R p gn τn)
    {N0 : Emb} {w0 : World} {a0 : Act} (hr0 : HRel P N0 h0 w0) (hf0 : Fresh N0 h0 gn) {L : Nat → Bool} (hL : Closed ops L) {j : Nat} {o : Oper} {r : Rec} (hj : L j = false) (ho : ops[j]? = some o) (hrj : recAt R j = some r)
    (hready : ∀ e ∈ o.after, Region.binds .any e = true → L e.on = true) {a : Act} {w : World} (hI : Inv P ops h0 τ0 R gn N0 w0 a0 L a w) {K : Act → World → Prop} {Q : Exit → Act → World → Prop}
    (hK : ∀ a' w', Inv P ops h0 τ0 R gn N0 w0 a0 (addL L j) a' w' → K a' w') : wpOpIn (wideR ro) dp P ops Q j K a w := by
  obtain ⟨N, H, hSt, hT, hD, hF, hE, hnx, hH⟩ := hI
  obtain ⟨pre, rs, rfl, rfl⟩ := recAt_split hrj
  obtain ⟨p1, g1, τ1, o', p2, g2, hrs, ho', hst, hg2⟩ := hR.split
  rw [ho] at ho'
  cases ho'
  have hrng := hR.ranges
  have hst0 := hst
  have hbase : ∀ i x, look i h0.blocks = some x → i < h0.next := fun i x hx => hr0.ids i x hx
  have hbefore : ∀ i, bitOf (Region.before ops) i rs.length = true → L i = true := fun i hb => ready_bit hL ho hready hb
  have hlater : ∀ k, bitOf (Region.before ops) rs.length k = true → L k = false := fun k hb => by
    cases hk : L k with
    | false => rfl
    | true => rw [closed_bit hL k rs.length hk hb] at hj; cases hj
  -- the temporaries that it looks at
  have hlook : ∀ t, t ∈ o.dst.toList ++ looks ops o → (∀ k, k < rs.length → dstAt ops k = some t → L k = true) ∧ (∀ k, rs.length < k → dstAt ops k = some t → L k = false) := by
    intro t ht
    refine ⟨fun k hk hd => ?_, fun k hk hd => ?_⟩
    · rcases draw_order hok ho hd ht with q | q | q
      · omega
      · exact hbefore k q
      · have := bit_lt hok k rs.length q; omega
    · rcases draw_order hok ho hd ht with q | q | q
      · omega
      · have := bit_lt hok rs.length k q; omega
      · exact hlater k q
  have htmp : ∀ t, t ∈ looks ops o → (tmpsF ops τ0 L (pre ++ r :: rs))[t]? = τ1[t]? := by
    intro t ht
    obtain ⟨h1, h2⟩ := hlook t (List.mem_append.2 (.inr ht))
    have e : pre ++ r :: rs = (pre ++ [r]) ++ rs := by simp
    rw [e, tmpsF_above (pre ++ [r]) (fun k hk1 _ hd => by
      rcases Nat.lt_or_ge rs.length k with q | q
      · exact h2 k q hd
      · have : k = rs.length := by omega
        rw [this]; exact hj), tmpsF_below rs h1, ← tmpsF_all hrs]
  have hev : ∀ x ∈ o.op.operands, okOps o = true → VRel N (evalT τ1 x) (a.eval x) := by
    intro x hx hoks
    have hop := okOps_mem hoks hx
    cases x with
    | tmp t =>
      have := getD_rel hT t
      rw [htmp t (looks_tmp hx)] at this
      exact this
    | const v => exact flat_refl N hop
    | global g => simp [okOperand] at hop
    | func f => exact .func f _ _ _ _ rfl rfl (by simp) (by simp)
  have hgk : gok ops τ1 o = true := by cases hst <;> assumption
  have hwant : Region.wanted o (yielded ops a.tmps) = Region.wanted o (yielded ops τ1) := by
    unfold Region.wanted
    cases hg : o.guard with
    | none => rfl
    | some q =>
      obtain ⟨gd, want⟩ := q
      have : yielded ops τ1 gd = yielded ops a.tmps gd := by
        apply yielded_rel' (N := N)
        intro t ht
        have hin : t ∈ looks ops o := by
          unfold looks
          rw [hg]
          exact List.mem_append.2 (.inr (by simp only [ht]; simp))
        rw [← htmp t hin]
        cases hv : (tmpsF ops τ0 L (pre ++ r :: rs))[t]? with
        | some v =>
          obtain ⟨v', h1, h2⟩ := hT.get hv
          exact .inr ⟨v, v', rfl, h1, h2, gok_some hgk hg ht (by rw [← htmp t hin]; exact hv)⟩
        | none =>
          rw [Array.getElem?_eq_none_iff] at hv
          exact .inl ⟨rfl, Array.getElem?_eq_none (hT.1 ▸ hv)⟩
      simp only [this]
  have hdst : dstAt ops rs.length = o.dst := by simp [dstAt, ho]
  have hput : ∀ (N' : Emb) (v' : Value), Emb.le N N' → VRel N' r.v v' → CRel N' (tmpsF ops τ0 (addL L rs.length) (pre ++ r :: rs)) (a.put o.dst v').tmps := by
    intro N' v' hle hv
    rw [tmpsF_add hj pre (fun k hk1 _ hLk t hd1 hd2 => by
      have := (hlook t (List.mem_append.2 (.inl (by rw [hdst] at hd2; rw [hd2]; simp)))).2 k hk1 hd1
      rw [hLk] at this; cases this), hdst]
    exact putT_rel (hT.mono hle) o.dst hv
  have hfree : ∀ N' : Emb, (∀ i e, N' i = some e → N i = none → r.s ≤ i ∧ i < r.e) → ∀ k q, recAt (pre ++ r :: rs) k = some q → addL L rs.length k = false → ∀ i, q.s ≤ i → i < q.e → N' i = none := by
    intro N' hnew k q hq hk i h1 h2
    have hkj : k ≠ rs.length := by intro e; rw [e, addL_self] at hk; cases hk
    rw [addL_ne L hkj] at hk
    have hNi := hF k q hq hk i h1 h2
    cases hN' : N' i with
    | none => rfl
    | some e =>
      have h3 := hnew i e hN' hNi
      rcases Nat.lt_or_ge k rs.length with x | x
      · have := hrng.2 k rs.length q r x hq hrj; omega
      · have := hrng.2 rs.length k r q (by omega) hrj hq; omega
  -- an operation that leaves memory alone
  have quiet : r.heap = false → r.sq = false → r.ls = false → ∀ v', VRel N r.v v' → K (a.put o.dst v') w := by
    intro hh hsq hnl v' hv
    refine hK _ _ ⟨N, H, fun j' r' c' x1 x2 x3 => hSt j' r' c' x1 x2 (by
      have hkj : j' ≠ rs.length := by intro e; rw [e, addL_self] at x3; cases x3
      rw [addL_ne L hkj] at x3; exact x3), hput N v' (Emb.le_refl N) hv, by rw [put_defers]; exact hD, hfree N (fun i e h1 h2 => by rw [h1] at h2; cases h2), hE, hnx, ?_⟩
    rcases hH with ⟨q1, q2, q3⟩ | ⟨k, q, q1, q2, q3, q4, q5, q6, q7, q8⟩
    · left
      refine ⟨fun k q hq hs => ?_, q2, by rw [q3, gather_same hj (hst0.pureNew hh)]⟩
      by_cases hkj : k = rs.length
      · subst hkj
        rw [hrj] at hq
        cases hq
        rw [hsq] at hs; cases hs
      · rw [addL_ne L hkj]; exact q1 k q hq hs
    · right
      have hkj : k ≠ rs.length := by intro e; rw [e, hj] at q3; cases q3
      refine ⟨k, q, q1, q2, by rw [addL_ne L hkj]; exact q3, fun l x hl hx hs => ?_, q5, ?_, q7, fun k' x hx hl hsl => q8 k' x hx hl (seqL_up hsl)⟩
      · by_cases hlj : l = rs.length
        · subst hlj
          rw [hrj] at hx
          cases hx
          rw [hsq] at hs; cases hs
        · rw [addL_ne L hlj]; exact q4 l x hl hx hs
      · rw [q6]
        congr 1
        refine gatherL_congr fun k' x hx hl => ?_
        rw [seqL_add hrj hsq]
        by_cases hkj' : k' = rs.length
        · subst hkj'
          rw [hrj] at hx
          cases hx
          rw [hnl] at hl; cases hl
        · rw [addL_ne L hkj']
  unfold wpOpIn
  simp only [ho, hwant]
  obtain ⟨r0, hre⟩ : ∃ r0, r0 = r := ⟨r, rfl⟩
  rw [← hre] at hst
  cases hst with
  | skip _ hg hw =>
    simp only [hw, Bool.false_eq_true, if_false]
    refine ⟨fun _ _ => trivial, ?_⟩
    exact quiet (by rw [← hre]) (by rw [← hre]) (by rw [← hre]; rfl) undef (by rw [← hre]; exact undef_rel N)
  | pure _ v hg hw hoks hp =>
    simp only [hw, if_true]
    obtain ⟨v', h1, h2⟩ := hp N w a.eval (fun x hx => hev x hx hoks)
    refine op_value ro dp h1 ?_
    exact quiet (by rw [← hre]) (by rw [← hre]) (by rw [← hre]; rfl) v' (by rw [← hre]; exact h2)
  | read _ c v hg hw hoks hr hcl =>
    simp only [hw, if_true]
    have hrc : r.rd = some c := by rw [← hre]
    have hlk := hSt rs.length r c hrj hrc hj
    unfold aread at hr
    split at hr
    · rename_i t x hop
      split at hr
      · rename_i ad had
        split at hr
        · rename_i ob hob
          split at hr
          · rename_i v1 hv1
            cases hr
            have hl : aload P t (evalT τ1 x) H = some v := by
              rw [had]
              have e1 : H.get ad.block = some ob := by unfold AH.get; rw [hlk]; exact hob
              have e2 : (⟨0, 0, [(ad.block, ob)]⟩ : AH).get ad.block = some ob := by simp [AH.get, look]
              unfold aload at hv1 ⊢
              simp only [e1]
              simp only [e2] at hv1
              exact hv1
            obtain ⟨v', h1, h2⟩ := aload_ok hl (hev x (by simp [hop, Op.operands]) hoks) hE.rel
            have h3 : (execOp a.eval o).run P w = .ok (.value v') w := by simp [execOp, hop, h1]
            refine op_value ro dp h3 ?_
            exact quiet (by rw [← hre]) (by rw [← hre]) (by rw [← hre]; rfl) v' (by rw [← hre]; exact h2)
          · cases hr
        · cases hr
      · cases hr
    · cases hr
  | readL _ k v hg hw hoks hr =>
    simp only [hw, if_true]
    have rtc : r.tch = some [k] := by rw [← hre]
    have rsq : r.sq = false := by rw [← hre]
    unfold loosed at hr
    split at hr
    · rename_i t x hop
      split at hr
      · rename_i ad had
        split at hr
        · rename_i k' ob hfd
          obtain ⟨hcb, hr⟩ := cond_some hr
          split at hr
          · rename_i v1 hv1
            cases hr
            rw [Bool.and_eq_true, Bool.not_eq_true'] at hcb
            obtain ⟨m0, m2, m3⟩ := findL_some hfd
            have hkr := recAt_lt m2
            have m1 : recAt (pre ++ r :: rs) k = some m0 := by
              rw [show pre ++ r :: rs = (pre ++ [r]) ++ rs by simp, recAt_old hkr]; exact m2
            have hLk := hbefore k hcb.1
            have hnoS : seqL L (Region.before ops) k (pre ++ r :: rs) = false := by
              refine seqL_false fun i s hi hs hLi => ?_
              rcases Nat.lt_or_ge i rs.length with y | y
              · rw [show pre ++ r :: rs = (pre ++ [r]) ++ rs by simp, recAt_old y] at hi
                exact seqL_no hcb.2 hi hs rfl
              · rcases Nat.eq_or_lt_of_le y with y | y
                · rw [← y, hj] at hLi; cases hLi
                · rcases hR.looks hi hs hrj y rsq rtc with z | z
                  · exact z
                  · have := hlater i z
                    rw [this] at hLi; cases hLi
            have hget : H.get ad.block = some ob := by
              unfold AH.get
              rcases hH with ⟨q1, q2, q3⟩ | ⟨k0, q, q1, q2, q3, q4, q5, q6, q7, q8⟩
              · rw [q3]
                exact gather_look hR m1 hLk m3.2
              · rw [q6]
                exact look_append_some (gatherL_look hR m1 m3.1 (by rw [hLk, hnoS]; rfl) m3.2)
            have hl : aload P t (evalT τ1 x) H = some v := by
              rw [had]
              have e2 : (⟨0, 0, [(ad.block, ob)]⟩ : AH).get ad.block = some ob := by simp [AH.get, look]
              unfold aload at hv1 ⊢
              simp only [hget]
              simp only [e2] at hv1
              exact hv1
            obtain ⟨v', h1, h2⟩ := aload_ok hl (hev x (by simp [hop, Op.operands]) hoks) hE.rel
            have h3 : (execOp a.eval o).run P w = .ok (.value v') w := by simp [execOp, hop, h1]
            refine op_value ro dp h3 ?_
            exact quiet (by rw [← hre]) (by rw [← hre]) (by rw [← hre]; rfl) v' (by rw [← hre]; exact h2)
          · cases hr
        · cases hr
      · cases hr
    · cases hr
  | float v h' hg hw hoks hi hn hl =>
    simp only [hw, if_true]
    have rv : r.v = v := by rw [← hre]
    have rh : r.heap = true := by rw [← hre]
    have rq : r.sq = false := by rw [← hre]
    have rs1 : r.s = g1.next := by rw [← hre]
    have re1 : r.e = h'.next := by rw [← hre]
    have rn : r.new = newest g1.next h'.next h'.blocks := by rw [← hre]
    -- nothing sequential is listed yet
    have hH1 : (∀ k q, recAt (pre ++ r :: rs) k = some q → q.sq = true → L k = false) ∧ H.low = h0.low ∧ H.blocks = gather L (pre ++ r :: rs) h0.blocks := by
      rcases hH with q | ⟨k, q, q1, q2, q3, _⟩
      · exact q
      · exfalso
        rcases Nat.lt_or_ge k rs.length with x | x
        · rw [show pre ++ r :: rs = (pre ++ [r]) ++ rs by simp, recAt_old x] at q1
          have := (hrs.phase1 rfl).2.2 k q q1
          rw [q2] at this; cases this
        · have hkj : k ≠ rs.length := by intro e; rw [e, hj] at q3; cases q3
          have := hlater k (hR.seqs hrj q1 (by omega) rh (by rw [← hre]; rfl) q2)
          rw [q3] at this; cases this
    obtain ⟨hq1, hq2, hq3⟩ := hH1
    have hsub : ∀ i x, look i (gather (fun i => bitOf (Region.before ops) i rs.length) rs h0.blocks) = some x → H.get i = some x := by
      intro i x hx
      unfold AH.get
      rw [hq3]
      have e1 : gather (fun i => bitOf (Region.before ops) i rs.length) rs h0.blocks = gather (fun i => decide (i < rs.length) && bitOf (Region.before ops) i rs.length) (pre ++ r :: rs) h0.blocks := by
        rw [show pre ++ r :: rs = (pre ++ [r]) ++ rs by simp, gather_prefix (pre ++ [r]) (fun k hk _ => by
          have : decide (k < rs.length) = false := by simp; omega
          rw [this]; rfl)]
        exact gather_congr rs (fun k hk => by
          have : decide (k < rs.length) = true := by simp; exact hk
          rw [this]; rfl)
      rw [e1] at hx
      exact gather_mono hR hbase (fun k _ hk => hbefore k (by simp only [Bool.and_eq_true] at hk; exact hk.2)) hx
    have hrel : HRel P N ⟨g1.next, g1.next, gather (fun i => bitOf (Region.before ops) i rs.length) rs h0.blocks⟩ w := by
      refine ⟨fun i x hx => hE.rel.here i x (hsub i x hx), fun i k x y e f hx hy he hf hef => hE.rel.inj i k x y e f (hsub i x hx) (hsub k y hy) he hf hef, fun i x hx => ?_, fun b c hb => ⟨(hE.rel.froz b c hb).1, fun i x e hx he => (hE.rel.froz b c hb).2 i x e (hsub i x hx) he⟩, hE.rel.req⟩
      rcases gather_in hrs _ hx with q | q
      · exact q.2
      · have := hbase i x q
        have := hrs.next_le
        simp only
        omega
    have hfN : Fresh N ⟨g1.next, g1.next, gather (fun i => bitOf (Region.before ops) i rs.length) rs h0.blocks⟩ h' := fun i q1 q2 => hF rs.length _ hrj hj i (by rw [rs1]; exact q1) (by rw [re1]; exact q2)
    refine Oper.wpIn_mono ?_ (ImpOK.wpIn hi ro dp N w a (fun x hx => hev x hx hoks) hrel hfN Q)
    rintro a' w' ⟨N', v', rfl, hv, hE2⟩
    refine hK _ _ ⟨N', ⟨gn.next, h0.low, gather (addL L rs.length) (pre ++ r :: rs) h0.blocks⟩, fun j' r' c' x1 x2 _ => by
      obtain ⟨⟨ob, hob⟩, _⟩ := hR.reads x1 x2
      exact gather_old hR _ (hbase _ _ hob), hput N' v' hE2.le (by rw [rv]; exact hv), by rw [put_defers]; exact hD, hfree N' (fun i e h1 h2 => ⟨by rw [rs1]; exact (hE2.new i e h1 h2).1, by rw [re1]; exact (hE2.new i e h1 h2).2.1⟩), ?_, rfl, .inl ⟨fun k q hq hs => ?_, rfl, rfl⟩⟩
    · refine ext_frame hE hE2 (fun i q1 q2 => hf0 i q1 (by rw [← hnx]; exact q2)) hsub ?_ (fun i q1 q2 => hfN i q1 q2) hrs.next_le (by have := hg2; simp only at this ⊢; exact this) hnx (by rw [hq2]; exact Nat.le_refl _) ?_
      · intro i x hx
        rcases gather_add hj pre hx with q | q
        · rw [rn] at q; exact .inl (newest_look q).2.2
        · have hHi : H.get i = some x := by unfold AH.get; rw [hq3]; exact q
          cases hin : look i (gather (fun i => bitOf (Region.before ops) i rs.length) rs h0.blocks) with
          | none => exact .inr ⟨hHi, hin⟩
          | some y =>
            left
            have := hsub i y hin
            rw [hHi] at this
            cases this
            have hlt := hrel.ids i x hin
            have := hE2.old i hlt (by simp only at hlt; omega)
            rw [this]
            exact hin
      · intro i q1 _
        exact gather_old hR _ q1
    · by_cases hkj : k = rs.length
      · subst hkj
        rw [hrj] at hq
        cases hq
        rw [rq] at hs; cases hs
      · rw [addL_ne L hkj]; exact hq1 k q hq hs
  | loose _ v h' hg hw hoks hi hn hl =>
    simp only [hw, if_true]
    have rv : r.v = v := by rw [← hre]
    have rq : r.sq = false := by rw [← hre]
    have rl : r.ls = true := by rw [← hre]; rfl
    have rs1 : r.s = g1.next := by rw [← hre]
    have re1 : r.e = h'.next := by rw [← hre]
    have rn : r.new = newest g1.next h'.next h'.blocks := by rw [← hre]
    have hnone : ∀ i, (⟨g1.next, g1.next, []⟩ : AH).get i = none := fun _ => rfl
    have hrel : HRel P N ⟨g1.next, g1.next, []⟩ w :=
      ⟨fun i x hx => (by rw [hnone] at hx; cases hx), fun i k x y e f hx => (by rw [hnone] at hx; cases hx), fun i x hx => (by rw [hnone] at hx; cases hx), fun b c hb => ⟨(hE.rel.froz b c hb).1, fun i x e hx => (by rw [hnone] at hx; cases hx)⟩, hE.rel.req⟩
    have hfN : Fresh N ⟨g1.next, g1.next, []⟩ h' := fun i q1 q2 => hF rs.length _ hrj hj i (by rw [rs1]; exact q1) (by rw [re1]; exact q2)
    refine Oper.wpIn_mono ?_ (ImpOK.wpIn hi ro dp N w a (fun x hx => hev x hx hoks) hrel hfN Q)
    rintro a' w' ⟨N', v', rfl, hv, hE2⟩
    -- whatever the blocks are told as
    have go : ∀ Bl : List (Nat × Obj), (∀ i x, look i Bl = some x → look i r.new = some x ∨ look i H.blocks = some x) → (∀ i, i < h0.next → look i Bl = look i H.blocks) →
        (((∀ k q, recAt (pre ++ r :: rs) k = some q → q.sq = true → addL L rs.length k = false) ∧ H.low = h0.low ∧ Bl = gather (addL L rs.length) (pre ++ r :: rs) h0.blocks) ∨
         (∃ k q, recAt (pre ++ r :: rs) k = some q ∧ q.sq = true ∧ addL L rs.length k = true ∧ (∀ l q, k < l → recAt (pre ++ r :: rs) l = some q → q.sq = true → addL L rs.length l = false) ∧ H.low = q.after.low ∧
           Bl = gatherL (fun i => addL L rs.length i && !seqL (addL L rs.length) (Region.before ops) i (pre ++ r :: rs)) (pre ++ r :: rs) ++ q.after.blocks ∧ (∀ i x, look i q.after.blocks = some x → i < q.after.next) ∧
           (∀ k' q', recAt (pre ++ r :: rs) k' = some q' → q'.ls = true → seqL (addL L rs.length) (Region.before ops) k' (pre ++ r :: rs) = false → ∀ i, q'.s ≤ i → i < q'.e → look i q.after.blocks = none))) → K (a.put o.dst v') w' := by
      intro Bl hBl hold hrest
      refine hK _ _ ⟨N', ⟨gn.next, H.low, Bl⟩, fun j' r' c' x1 x2 x3 => ?_, hput N' v' hE2.le (by rw [rv]; exact hv), by rw [put_defers]; exact hD, hfree N' (fun i e h1 h2 => ⟨by rw [rs1]; exact (hE2.new i e h1 h2).1, by rw [re1]; exact (hE2.new i e h1 h2).2.1⟩), ?_, rfl, hrest⟩
      · obtain ⟨⟨ob, hob⟩, _⟩ := hR.reads x1 x2
        have hkj : j' ≠ rs.length := by intro e; rw [e, addL_self] at x3; cases x3
        rw [addL_ne L hkj] at x3
        show look c' Bl = _
        rw [hold c' (hbase _ _ hob)]
        exact hSt j' r' c' x1 x2 x3
      · refine ext_frame hE hE2 (fun i q1 q2 => hf0 i q1 (by rw [← hnx]; exact q2)) (fun i x hx => by rw [hnone] at hx; cases hx) ?_ (fun i q1 q2 => hfN i q1 q2) hrs.next_le (by have := hg2; simp only at this ⊢; exact this) hnx (Nat.le_refl _) ?_
        · intro i x hx
          rcases hBl i x hx with q | q
          · rw [rn] at q; exact .inl (newest_look q).2.2
          · exact .inr ⟨q, hnone i⟩
        · intro i q1 q2
          show look i Bl = _
          rw [hold i q1]
          exact hE.old i q1 q2
    rcases hH with ⟨q1, q2, q3⟩ | ⟨k, q, q1, q2, q3, q4, q5, q6, q7, q8⟩
    · refine go _ (fun i x hx => ?_) (fun i hi => ?_) (.inl ⟨fun k q hq hs => ?_, q2, rfl⟩)
      · rcases gather_add hj pre hx with z | z
        · exact .inl z
        · exact .inr (by rw [q3]; exact z)
      · rw [q3, gather_old hR _ hi, gather_old hR _ hi]
      · by_cases hkj : k = rs.length
        · subst hkj
          rw [hrj] at hq
          cases hq
          rw [rq] at hs; cases hs
        · rw [addL_ne L hkj]; exact q1 k q hq hs
    · have hkj : k ≠ rs.length := by intro e; rw [e, hj] at q3; cases q3
      refine go _ (fun i x hx => ?_) (fun i hi => ?_) (.inr ⟨k, q, q1, q2, by rw [addL_ne L hkj]; exact q3, fun l x hl hx hs => ?_, q5, rfl, q7, fun k' x hx hl hsl => q8 k' x hx hl (seqL_up hsl)⟩)
      · cases hg' : look i (gatherL (fun i => addL L rs.length i && !seqL (addL L rs.length) (Region.before ops) i (pre ++ r :: rs)) (pre ++ r :: rs)) with
        | some y =>
          rw [look_append_some hg'] at hx
          cases hx
          obtain ⟨k', q', m1, m2, m3, m4⟩ := gatherL_some hg'
          by_cases hkj' : k' = rs.length
          · subst hkj'
            rw [hrj] at m1
            cases m1
            exact .inl m4
          · right
            rw [addL_ne L hkj', seqL_add hrj rq] at m3
            rw [q6]
            exact look_append_some (gatherL_look hR m1 m2 m3 m4)
        | none =>
          rw [look_append_none hg'] at hx
          right
          rw [q6]
          cases hg2' : look i (gatherL (fun i => L i && !seqL L (Region.before ops) i (pre ++ r :: rs)) (pre ++ r :: rs)) with
          | none => rw [look_append_none hg2']; exact hx
          | some y =>
            obtain ⟨k', q', m1, m2, m3, m4⟩ := gatherL_some hg2'
            rw [Bool.and_eq_true, Bool.not_eq_true'] at m3
            have m5 := hR.newIn m1 m4
            rw [q8 k' q' m1 m2 m3.2 i m5.1 m5.2] at hx
            cases hx
      · rw [q6, gatherL_old hR _ hi, gatherL_old hR _ hi]
      · by_cases hlj : l = rs.length
        · subst hlj
          rw [hrj] at hx
          cases hx
          rw [rq] at hs; cases hs
        · rw [addL_ne L hlj]; exact q4 l x hl hx hs
  | seq _ hin v h' hg hw hoks hh hi hn hb tch ht hrd =>
    simp only [hw, if_true]
    have rv : r.v = v := by rw [← hre]
    have rh : r.heap = true := by rw [← hre]
    have rq : r.sq = true := by rw [← hre]
    have rl : r.ls = false := by rw [← hre]; rfl
    have rs1 : r.s = g1.next := by rw [← hre]
    have re1 : r.e = h'.next := by rw [← hre]
    have ra : r.after = { h' with low := min g1.low h'.low } := by rw [← hre]
    have hbig : ∀ k q, recAt (pre ++ r :: rs) k = some q → rs.length < k → q.sq = true → L k = false := fun k q hq hk hs => hlater k (hR.seqs hrj hq hk rh rl hs)
    have hup : ∀ {k : Nat} {q : Rec}, recAt rs k = some q → recAt (pre ++ r :: rs) k = some q := fun {k q} hk => by
      rw [show pre ++ r :: rs = (pre ++ [r]) ++ rs by simp, recAt_old (recAt_lt hk)]; exact hk
    have hdn : ∀ {k : Nat} {q : Rec}, k < rs.length → recAt (pre ++ r :: rs) k = some q → recAt rs k = some q := fun {k q} hk h => by
      rw [show pre ++ r :: rs = (pre ++ [r]) ++ rs by simp, recAt_old hk] at h; exact h
    have hnobit : ∀ k', seqL (addL L rs.length) (Region.before ops) k' (pre ++ r :: rs) = false → bitOf (Region.before ops) k' rs.length = false := fun k' hs => seqL_no hs hrj rq (addL_self L _)
    have hHin : (∀ i x, hin.get i = some x → H.get i = some x) ∧ H.low = g1.low ∧ hin.next = g1.next ∧ (∀ i x, hin.get i = some x → i < hin.next) ∧
        (∀ k' q, recAt (pre ++ r :: rs) k' = some q → q.ls = true → seqL (addL L rs.length) (Region.before ops) k' (pre ++ r :: rs) = false → ∀ i, q.s ≤ i → i < q.e → hin.get i = none ∧ (L k' = true → ∀ x, look i q.new = some x → H.get i = some x)) ∧
        (∀ i, i < h0.next → hin.get i = H.get i) := by
      rcases hh with ⟨hp1, rfl⟩ | ⟨hp1, rfl⟩
      · obtain ⟨k0, q0, h1, h2, h3, h3l, h3n, h4⟩ := hrs.phase2 hp1
        have hk0 := recAt_lt h1
        have hk0R := hup h1
        have hq0h := hrs.sq_heap h1 h2
        have hLk0 : L k0 = true := hbefore k0 (heapBefore_at hb k0 q0 h1 hq0h.1 hq0h.2)
        rcases hH with ⟨q1, _, _⟩ | ⟨k, q, q1, q2, q3, q4, q5, q6, q7, q8⟩
        · have := q1 k0 q0 hk0R h2
          rw [hLk0] at this; cases this
        · have hkk : k = k0 := by
            rcases Nat.lt_trichotomy k k0 with x | x | x
            · have := q4 k0 q0 x hk0R h2
              rw [hLk0] at this; cases this
            · exact x
            · exfalso
              have hkj : k ≠ rs.length := by intro e; rw [e, hj] at q3; cases q3
              rcases Nat.lt_or_ge k rs.length with y | y
              · have hheap := h4 k q x (hdn y q1)
                rw [q2] at hheap; cases hheap
              · have := hbig k q q1 (by omega) q2
                rw [q3] at this; cases this
          subst hkk
          rw [hk0R] at q1
          cases q1
          have habs : ∀ i x, look i (absorb (Region.before ops) rs.length rs) = some x → ∃ k' q', recAt rs k' = some q' ∧ q'.ls = true ∧ bitOf (Region.before ops) k' rs.length = true ∧ seqL (fun _ => true) (Region.before ops) k' rs = false ∧ look i q'.new = some x := by
            intro i x hx
            obtain ⟨k', q', m1, m2, m3, m4⟩ := gatherL_some hx
            rw [Bool.and_eq_true, Bool.not_eq_true'] at m3
            exact ⟨k', q', m1, m2, m3.1, m3.2, m4⟩
          refine ⟨fun i x hx => ?_, q5.trans h3l, rfl, fun i x hx => ?_, fun k' q' m1 m2 m3 i i1 i2 => ⟨?_, fun hL' x hx => ?_⟩, fun i hi => ?_⟩
          · have hx : look i (absorb (Region.before ops) rs.length rs ++ g1.blocks) = some x := hx
            show look i H.blocks = some x
            rw [q6]
            cases hl : look i (absorb (Region.before ops) rs.length rs) with
            | some y =>
              rw [look_append_some hl] at hx
              cases hx
              obtain ⟨k', q', m1, m2, m3, m4, m5⟩ := habs i _ hl
              refine look_append_some (gatherL_look hR (hup m1) m2 ?_ m5)
              rw [hbefore k' m3, Bool.true_and, Bool.not_eq_true']
              refine seqL_false fun l ql hl1 hl2 hl3 => ?_
              rcases Nat.lt_trichotomy l rs.length with z | z | z
              · exact seqL_no m4 (hdn z hl1) hl2 rfl
              · rw [z, hj] at hl3; cases hl3
              · rw [hbig l ql hl1 z hl2] at hl3; cases hl3
            | none =>
              rw [look_append_none hl, ← h3] at hx
              cases hg' : look i (gatherL (fun i => L i && !seqL L (Region.before ops) i (pre ++ r :: rs)) (pre ++ r :: rs)) with
              | none => rw [look_append_none hg']; exact hx
              | some y =>
                obtain ⟨k', q', m1, m2, m3, m4⟩ := gatherL_some hg'
                rw [Bool.and_eq_true, Bool.not_eq_true'] at m3
                have m5 := hR.newIn m1 m4
                rw [q8 k' q' m1 m2 m3.2 i m5.1 m5.2] at hx
                cases hx
          · have hx : look i (absorb (Region.before ops) rs.length rs ++ g1.blocks) = some x := hx
            show i < g1.next
            cases hl : look i (absorb (Region.before ops) rs.length rs) with
            | some y =>
              obtain ⟨k', q', m1, m2, m3, m4, m5⟩ := habs i _ hl
              have := hrs.newIn m1 m5
              have := hrs.ranges.1 k' q' m1
              omega
            | none =>
              rw [look_append_none hl, ← h3] at hx
              have := q7 i x hx
              omega
          · show look i (absorb (Region.before ops) rs.length rs ++ g1.blocks) = none
            have hl : look i (absorb (Region.before ops) rs.length rs) = none := by
              cases hl : look i (absorb (Region.before ops) rs.length rs) with
              | none => rfl
              | some y =>
                obtain ⟨k2, q2', n1, n2, n3, n4, n5⟩ := habs i _ hl
                have := hR.one m1 (hup n1) ⟨i1, i2⟩ (hrs.newIn n1 n5)
                subst this
                rw [hnobit k' m3] at n3
                cases n3
            rw [look_append_none hl, ← h3]
            exact q8 k' q' m1 m2 (seqL_up m3) i i1 i2
          · show look i H.blocks = some x
            rw [q6]
            refine look_append_some (gatherL_look hR m1 m2 ?_ hx)
            rw [hL', seqL_up m3]
            rfl
          · show look i (absorb (Region.before ops) rs.length rs ++ g1.blocks) = look i H.blocks
            rw [q6]
            exact (gatherL_old hrs _ hi _).trans (by rw [← h3]; exact (gatherL_old hR _ hi _).symm)
      · have hnoseq := (hrs.phase1 hp1)
        have hH1 : (∀ k q, recAt (pre ++ r :: rs) k = some q → q.sq = true → L k = false) ∧ H.low = h0.low ∧ H.blocks = gather L (pre ++ r :: rs) h0.blocks := by
          rcases hH with q | ⟨k, q, q1, q2, q3, _⟩
          · exact q
          · exfalso
            rcases Nat.lt_or_ge k rs.length with x | x
            · have := hnoseq.2.2 k q (hdn x q1)
              rw [q2] at this; cases this
            · have hkj : k ≠ rs.length := by intro e; rw [e, hj] at q3; cases q3
              have := hbig k q q1 (by omega) q2
              rw [q3] at this; cases this
        obtain ⟨_, hq2, hq3⟩ := hH1
        refine ⟨fun i x hx => ?_, by rw [hq2, hnoseq.2.1], rfl, fun i x hx => ?_, fun k' q' m1 m2 m3 i i1 i2 => ⟨?_, fun hL' x hx => ?_⟩, fun i hi => ?_⟩
        · show look i H.blocks = some x
          rw [hq3]
          have hx : look i (gather (fun i => bitOf (Region.before ops) i rs.length) rs h0.blocks) = some x := hx
          have e1 : gather (fun i => bitOf (Region.before ops) i rs.length) rs h0.blocks = gather (fun i => decide (i < rs.length) && bitOf (Region.before ops) i rs.length) (pre ++ r :: rs) h0.blocks := by
            rw [show pre ++ r :: rs = (pre ++ [r]) ++ rs by simp, gather_prefix (pre ++ [r]) (fun k hk _ => by
              have : decide (k < rs.length) = false := by simp; omega
              rw [this]; rfl)]
            exact gather_congr rs (fun k hk => by
              have : decide (k < rs.length) = true := by simp; exact hk
              rw [this]; rfl)
          rw [e1] at hx
          exact gather_mono hR hbase (fun k _ hk => hbefore k (by simp only [Bool.and_eq_true] at hk; exact hk.2)) hx
        · rcases gather_in hrs _ hx with q | q
          · exact q.2
          · have := hbase i x q
            have := hrs.next_le
            simp only
            omega
        · show look i (gather (fun i => bitOf (Region.before ops) i rs.length) rs h0.blocks) = none
          rcases Nat.lt_trichotomy k' rs.length with z | z | z
          · exact gather_only hrs hbase (hdn z m1) (hnobit k' m3) ⟨i1, i2⟩
          · subst z
            rw [hrj] at m1
            cases m1
            rw [rl] at m2; cases m2
          · cases hg' : look i (gather (fun i => bitOf (Region.before ops) i rs.length) rs h0.blocks) with
            | none => rfl
            | some y =>
              exfalso
              have n1 := hrng.2 rs.length k' r q' z hrj m1
              have n2 := hrng.1 rs.length r hrj
              have n3 := hrs.next_le
              rcases gather_in hrs _ hg' with x | x
              · omega
              · have := hbase i y x; omega
        · show look i H.blocks = some x
          rw [hq3]
          exact gather_look hR m1 hL' hx
        · show look i (gather (fun i => bitOf (Region.before ops) i rs.length) rs h0.blocks) = look i H.blocks
          rw [hq3, gather_old hrs _ hi, gather_old hR _ hi]
    obtain ⟨hsub, hLw, hNx, hids, hpend, hold0⟩ := hHin
    have hrel : HRel P N hin w := ⟨fun i x hx => hE.rel.here i x (hsub i x hx), fun i k x y e f hx hy he hf hef => hE.rel.inj i k x y e f (hsub i x hx) (hsub k y hy) he hf hef, hids, fun b c hb => ⟨(hE.rel.froz b c hb).1, fun i x e hx he => (hE.rel.froz b c hb).2 i x e (hsub i x hx) he⟩, hE.rel.req⟩
    have hfN : Fresh N hin h' := fun i q1 q2 => hF rs.length _ hrj hj i (by rw [hNx] at q1; rw [rs1]; exact q1) (by rw [re1]; exact q2)
    refine Oper.wpIn_mono ?_ (ImpOK.wpIn hi ro dp N w a (fun x hx => hev x hx hoks) hrel hfN Q)
    rintro a' w' ⟨N', v', rfl, hv, hE2⟩
    have hq8 : ∀ k' q, recAt (pre ++ r :: rs) k' = some q → q.ls = true → seqL (addL L rs.length) (Region.before ops) k' (pre ++ r :: rs) = false → ∀ i, q.s ≤ i → i < q.e → look i h'.blocks = none := by
      intro k' q m1 m2 m3 i i1 i2
      cases hc : look i h'.blocks with
      | none => rfl
      | some x =>
        exfalso
        rcases hE2.alive i x hc with ⟨y, hy⟩ | ⟨y1, y2⟩
        · rw [(hpend k' q m1 m2 m3 i i1 i2).1] at hy; cases hy
        · have := hR.one m1 hrj ⟨i1, i2⟩ ⟨by rw [rs1, ← hNx]; exact y1, by rw [re1]; exact y2⟩
          subst this
          rw [hrj] at m1
          cases m1
          rw [rl] at m2; cases m2
    have hgl : ∀ i x, look i (gatherL (fun i => addL L rs.length i && !seqL (addL L rs.length) (Region.before ops) i (pre ++ r :: rs)) (pre ++ r :: rs)) = some x → H.get i = some x ∧ hin.get i = none := by
      intro i x hx
      obtain ⟨k', q', m1, m2, m3, m4⟩ := gatherL_some hx
      have hkj : k' ≠ rs.length := by
        rintro rfl
        rw [hrj] at m1
        cases m1
        rw [rl] at m2; cases m2
      rw [Bool.and_eq_true, Bool.not_eq_true', addL_ne L hkj] at m3
      have m5 := hR.newIn m1 m4
      have := hpend k' q' m1 m2 m3.2 i m5.1 m5.2
      exact ⟨this.2 m3.1 x m4, this.1⟩
    have hsteady : ∀ j' r' c', recAt (pre ++ r :: rs) j' = some r' → r'.rd = some c' → addL L rs.length j' = false → look c' h'.blocks = look c' h0.blocks := by
      intro j' r' c' x1 x2 x3
      have hkj : j' ≠ rs.length := by intro e; rw [e, addL_self] at x3; cases x3
      rw [addL_ne L hkj] at x3
      have hold := hSt j' r' c' x1 x2 x3
      obtain ⟨⟨ob, hob⟩, hbef⟩ := hR.reads x1 x2
      have hc0 := hbase _ _ hob
      have htch : r.touch c' = false := by
        rcases Nat.lt_or_ge j' rs.length with y | y
        · have hrd' : readsOk (Region.before ops) rs.length r rs = true := by rw [← hre]; exact hrd
          rcases readsOk_at hrd' j' r' c' (hdn y x1) x2 with z | z
          · exact z
          · rw [hbefore j' z] at x3; cases x3
        · exact hbef rs.length r (by omega) hrj rq
      have hcn : c' < hin.next := by rw [hNx]; have := hrs.next_le; omega
      have hsame : h'.get c' = hin.get c' := by
        have rt : r.tch = tch := by rw [← hre]
        unfold Rec.touch at htch
        rw [rt] at htch
        cases htc : tch with
        | some l => rw [htc] at htch; exact ht l htc c' hcn htch
        | none =>
          rw [htc] at htch
          simp only at htch
          have rl : r.lo = h'.low := by rw [← hre]
          have hlt : c' < r.lo := by
            rcases Nat.lt_or_ge c' r.lo with z | z
            · exact z
            · rw [Nat.ble_eq_true_of_le z] at htch; cases htch
          rw [rl] at hlt
          exact hE2.old c' hcn hlt
      have e1 : look c' h'.blocks = hin.get c' := hsame
      rw [e1, hold0 c' hc0]
      exact hold
    refine hK _ _ ⟨N', ⟨gn.next, min g1.low h'.low, gatherL (fun i => addL L rs.length i && !seqL (addL L rs.length) (Region.before ops) i (pre ++ r :: rs)) (pre ++ r :: rs) ++ h'.blocks⟩, fun j' r' c' x1 x2 x3 => ?_, hput N' v' hE2.le (by rw [rv]; exact hv), by rw [put_defers]; exact hD, hfree N' (fun i e h1 h2 => ⟨by have := (hE2.new i e h1 h2).1; rw [hNx] at this; rw [rs1]; exact this, by rw [re1]; exact (hE2.new i e h1 h2).2.1⟩), ?_, rfl, .inr ⟨rs.length, r, hrj, rq, addL_self L _, fun l q hl hq hs => ?_, by rw [ra], by rw [ra], fun i x hx => by rw [ra] at hx ⊢; exact hE2.rel.ids i x hx, fun k' q m1 m2 m3 i i1 i2 => by rw [ra]; exact hq8 k' q m1 m2 m3 i i1 i2⟩⟩
    · obtain ⟨⟨ob, hob⟩, _⟩ := hR.reads x1 x2
      rw [gatherL_old hR _ (hbase _ _ hob)]
      exact hsteady j' r' c' x1 x2 x3
    · refine ext_frame hE hE2 (fun i q1 q2 => hf0 i q1 (by rw [← hnx]; exact q2)) hsub (fun i x hx => ?_) (fun i q1 q2 => hfN i q1 q2) (by rw [hNx]; exact hrs.next_le) (by have := hg2; simp only at this ⊢; exact this) hnx (by rw [hLw]; exact Nat.min_le_left _ _) ?_
      · cases hg' : look i (gatherL (fun i => addL L rs.length i && !seqL (addL L rs.length) (Region.before ops) i (pre ++ r :: rs)) (pre ++ r :: rs)) with
        | some y =>
          have hx : look i (gatherL (fun i => addL L rs.length i && !seqL (addL L rs.length) (Region.before ops) i (pre ++ r :: rs)) (pre ++ r :: rs) ++ h'.blocks) = some x := hx
          rw [look_append_some hg'] at hx
          cases hx
          exact .inr (hgl i _ hg')
        | none =>
          have hx : look i (gatherL (fun i => addL L rs.length i && !seqL (addL L rs.length) (Region.before ops) i (pre ++ r :: rs)) (pre ++ r :: rs) ++ h'.blocks) = some x := hx
          rw [look_append_none hg'] at hx
          exact .inl hx
      · intro i q1 q2
        have h1 : i < g1.low := Nat.lt_of_lt_of_le q2 (Nat.min_le_left _ _)
        have h2 : i < h'.low := Nat.lt_of_lt_of_le q2 (Nat.min_le_right _ _)
        have h3 := hE2.old i (by rw [hNx]; have := hrs.next_le; omega) h2
        have h4 := hE.old i q1 (by rw [hLw]; exact h1)
        have h6 : look i (gatherL (fun i => addL L rs.length i && !seqL (addL L rs.length) (Region.before ops) i (pre ++ r :: rs)) (pre ++ r :: rs) ++ h'.blocks) = h'.get i := gatherL_old hR _ q1 _
        show look i (gatherL (fun i => addL L rs.length i && !seqL (addL L rs.length) (Region.before ops) i (pre ++ r :: rs)) (pre ++ r :: rs) ++ h'.blocks) = h0.get i
        rw [h6, h3, hold0 i q1, h4]
    · rw [addL_ne L (by omega)]
      exact hbig l q hq hl hs

end Go.Ev

/-
  The abstract evaluator: soundness (EvU).
-/
namespace Go.Ev

/-- All are listed. -/
theorem inv_end {P : Program} {ops : Array Oper} {h0 : AH} {τ0 : Array Value} {R : List Rec} {p : Bool} {gn : AH} {τn : Array Value} (hR : Run P ops h0 τ0 R p gn τn)
    {N0 : Emb} {w0 : World} {a0 : Act} {L : Nat → Bool} (hall : ∀ k, k < R.length → L k = true) {a : Act} {w : World} (hI : Inv P ops h0 τ0 R gn N0 w0 a0 L a w) :
    ∃ N, CRel N τn a.tmps ∧ a.defers = a0.defers ∧ Ext P N0 h0 w0 N (finalH (Region.before ops) p R gn) w := by
  obtain ⟨N, H, _, hT, hD, hF, hE, hnx, hH⟩ := hI
  refine ⟨N, ?_, hD, ?_⟩
  · rw [tmpsF_all hR, ← tmpsF_congr R hall]; exact hT
  · have key : H = finalH (Region.before ops) p R gn := by
      have hb : H.low = (finalH (Region.before ops) p R gn).low ∧ H.blocks = (finalH (Region.before ops) p R gn).blocks := by
        rcases hH with ⟨q1, q2, q3⟩ | ⟨k, r, q1, q2, q3, q4, q5, q6, _⟩
        · have hp : p = false := by
            cases p with
            | false => rfl
            | true =>
              obtain ⟨k, r, h1, h2, _⟩ := hR.phase2 rfl
              have := q1 k r h1 h2
              rw [hall k (recAt_lt h1)] at this
              cases this
          have := hR.phase1 hp
          subst hp
          exact ⟨by rw [q2]; exact this.2.1.symm, by rw [q3, gather_congr R hall]; exact this.1.symm⟩
        · have hp : p = true := by
            cases p with
            | true => rfl
            | false =>
              have := (hR.phase1 rfl).2.2 k r q1
              rw [q2] at this; cases this
          obtain ⟨k0, r0, h1, h2, h3, h3l, _, h4⟩ := hR.phase2 hp
          have hkk : k = k0 := by
            rcases Nat.lt_trichotomy k k0 with x | x | x
            · have := q4 k0 r0 x h1 h2
              rw [hall k0 (recAt_lt h1)] at this; cases this
            · exact x
            · have := h4 k r x q1
              rw [q2] at this; cases this
          subst hkk
          rw [h1] at q1
          cases q1
          subst hp
          refine ⟨q5.trans h3l, ?_⟩
          rw [q6, h3]
          show _ = gatherL (fun i => !seqL (fun _ => true) (Region.before ops) i R) R ++ gn.blocks
          congr 1
          refine gatherL_congr fun k' q hq _ => ?_
          rw [hall k' (recAt_lt hq), Bool.true_and]
          congr 1
          cases hc : seqL (fun _ => true) (Region.before ops) k' R with
          | true =>
            obtain ⟨l, ql, l1, l2, _, l4⟩ := seqL_true hc
            exact seqL_mk l1 l2 (hall l (recAt_lt l1)) l4
          | false => exact seqL_false fun l ql l1 l2 _ => seqL_no hc l1 l2 rfl
      have hn2 : H.next = (finalH (Region.before ops) p R gn).next := by rw [finalH_next]; exact hnx
      generalize finalH (Region.before ops) p R gn = Z at hb hn2
      obtain ⟨hn, hl, hbk⟩ := H
      obtain ⟨gn1, gl, gb⟩ := Z
      simp only at hn2 hb
      rw [hn2, hb.1, hb.2]
    rw [← key]
    exact hE

/-- What is listed, as a function. -/
def lst (listed : Array Bool) : Nat → Bool := fun i => listed.getD i false

theorem mem_ready {ops : Array Oper} {listed : Array Bool} {i : Nat} (hs : listed.size = ops.size) (h : i ∈ Region.ready .any ops listed) :
    ∃ o, ops[i]? = some o ∧ lst listed i = false ∧ ∀ e ∈ o.after, Region.binds .any e = true → lst listed e.on = true := by
  unfold Region.ready at h
  simp only [List.mem_filter, List.mem_range, Bool.and_eq_true, Bool.not_eq_true'] at h
  obtain ⟨hi, h1, h2⟩ := h
  have ho : ops[i]? = some ops[i] := Array.getElem?_eq_getElem hi
  refine ⟨ops[i], ho, ?_, ?_⟩
  · unfold lst
    have : i < listed.size := by omega
    simp only [Array.getD_eq_getD_getElem?, Array.getElem?_eq_getElem this, Option.getD_some] at h1 ⊢
    exact h1
  · intro e he hb
    rw [ho] at h2
    simp only [Option.map_some, Option.getD_some, Array.all_eq_true_iff_forall_mem] at h2
    have := h2 e he
    rw [hb] at this
    simpa [lst] using this

theorem ready_mem {ops : Array Oper} {listed : Array Bool} {i : Nat} {o : Oper} (hs : listed.size = ops.size) (ho : ops[i]? = some o) (h1 : lst listed i = false) (h2 : ∀ e ∈ o.after, Region.binds .any e = true → lst listed e.on = true) :
    i ∈ Region.ready .any ops listed := by
  have hi : i < ops.size := (Array.getElem?_eq_some_iff.1 ho).1
  unfold Region.ready
  simp only [List.mem_filter, List.mem_range, Bool.and_eq_true, Bool.not_eq_true']
  refine ⟨hi, ?_, ?_⟩
  · unfold lst at h1
    have : i < listed.size := by omega
    simp only [Array.getD_eq_getD_getElem?, Array.getElem?_eq_getElem this, Option.getD_some] at h1 ⊢
    exact h1
  · rw [ho]
    simp only [Option.map_some, Option.getD_some, Array.all_eq_true_iff_forall_mem]
    intro e he
    cases hb : Region.binds .any e with
    | false => rfl
    | true => simpa [lst] using h2 e he hb

theorem lst_set {listed : Array Bool} {j : Nat} (hj : j < listed.size) : lst (listed.setIfInBounds j true) = addL (lst listed) j := by
  funext k
  unfold lst addL
  simp only [Array.getD_eq_getD_getElem?]
  by_cases hk : k = j
  · subst hk; rw [Array.getElem?_setIfInBounds_self_of_lt hj]; simp
  · rw [Array.getElem?_setIfInBounds_ne (fun e => hk e.symm), beq_no hk]; rfl

theorem closed_add {ops : Array Oper} {L : Nat → Bool} (hL : Closed ops L) {j : Nat} {o : Oper} (ho : ops[j]? = some o) (hr : ∀ e ∈ o.after, Region.binds .any e = true → L e.on = true) : Closed ops (addL L j) := by
  intro k q hq hk e he hb
  have up : ∀ i, L i = true → addL L j i = true := fun i hi => by simp [addL, hi]
  by_cases hkj : k = j
  · subst hkj
    rw [ho] at hq
    cases hq
    exact up _ (hr e he hb)
  · rw [addL_ne L hkj] at hk
    exact up _ (hL k q hq hk e he hb)

/-- How many are not listed. -/
def left (n : Nat) (L : Nat → Bool) : Nat := (List.range n).countP fun i => !L i

theorem left_zero {n : Nat} {L : Nat → Bool} (h : left n L = 0) : ∀ k, k < n → L k = true := by
  intro k hk
  unfold left at h
  rw [List.countP_eq_zero] at h
  have := h k (List.mem_range.2 hk)
  simpa using this

theorem left_add {n j : Nat} {L : Nat → Bool} (hj : j < n) (hL : L j = false) : left n L = left n (addL L j) + 1 := by
  unfold left
  have gen : ∀ (l : List Nat), l.Nodup → j ∈ l → l.countP (fun i => !L i) = l.countP (fun i => !(addL L j) i) + 1 := by
    intro l
    induction l with
    | nil => intro _ h; cases h
    | cons x l ih =>
      intro hnd hm
      rw [List.nodup_cons] at hnd
      by_cases hx : x = j
      · subst hx
        rw [List.countP_cons_of_pos (by simp [hL]), List.countP_cons_of_neg (by simp [addL_self])]
        congr 1
        apply List.countP_congr
        intro y hy
        have : y ≠ x := fun e => hnd.1 (e ▸ hy)
        simp [addL_ne L this]
      · have hjl : j ∈ l := by
          rcases List.mem_cons.1 hm with q | q
          · exact absurd q.symm hx
          · exact q
        have ih := ih hnd.2 hjl
        cases hLx : L x with
        | true => rw [List.countP_cons_of_neg (by simp [hLx]), List.countP_cons_of_neg (by simp [addL_ne L hx, hLx])]; exact ih
        | false => rw [List.countP_cons_of_pos (by simp [hLx]), List.countP_cons_of_pos (by simp [addL_ne L hx, hLx]), ih]
  exact gen _ List.nodup_range (List.mem_range.2 hj)

theorem inv_any (ro : Option Nat) (dp : Nat) {P : Program} {ops : Array Oper} (hok : drawOk ops (Region.before ops) = true) {h0 : AH} {τ0 : Array Value} {R : List Rec} {p : Bool} {gn : AH} {τn : Array Value} (hR : Run P ops h0 τ0 R p gn τn) (hlen : R.length = ops.size)
    {N0 : Emb} {w0 : World} {a0 : Act} (hr0 : HRel P N0 h0 w0) (hf0 : Fresh N0 h0 gn) {Q : Exit → Act → World → Prop} (hQ : ∀ N a w, CRel N τn a.tmps → a.defers = a0.defers → Ext P N0 h0 w0 N (finalH (Region.before ops) p R gn) w → Q .normal a w) :
    ∀ (fuel : Nat) (listed : Array Bool) (a : Act) (w : World), listed.size = ops.size → Closed ops (lst listed) → left ops.size (lst listed) = fuel → Inv P ops h0 τ0 R gn N0 w0 a0 (lst listed) a w →
      wpAnyIn (wideR ro) dp P .any ops Q fuel listed a w := by
  have fin : ∀ (listed : Array Bool) (a : Act) (w : World), (∀ k, k < ops.size → lst listed k = true) → Inv P ops h0 τ0 R gn N0 w0 a0 (lst listed) a w → Q .normal a w := by
    intro listed a w hall hI
    obtain ⟨N, h1, h2, h3⟩ := inv_end hR (fun k hk => hall k (by omega)) hI
    exact hQ N a w h1 h2 h3
  intro fuel
  induction fuel with
  | zero =>
    intro listed a w hs hcl hleft hI
    have hall := left_zero hleft
    refine ⟨?_, fin listed a w hall hI⟩
    cases hrd : Region.ready .any ops listed with
    | nil => rfl
    | cons i l =>
      obtain ⟨o, ho, h1, _⟩ := mem_ready hs (by rw [hrd]; simp : i ∈ Region.ready .any ops listed)
      rw [hall i (Array.getElem?_eq_some_iff.1 ho).1] at h1
      cases h1
  | succ fuel ih =>
    intro listed a w hs hcl hleft hI
    refine ⟨fun hrd => fin listed a w (fun k hk => ?_) hI, fun j hj => ?_⟩
    · -- the least that is not listed would be ready
      induction k using Nat.strongRecOn with
      | _ k ihk =>
        cases hL : lst listed k with
        | true => rfl
        | false =>
          exfalso
          have ho : ops[k]? = some ops[k] := Array.getElem?_eq_getElem hk
          have := ready_mem hs ho hL (fun e he hb => ihk e.on (draw_edges hok ho he hb) (Nat.lt_trans (draw_edges hok ho he hb) hk))
          rw [hrd] at this
          cases this
    · obtain ⟨o, ho, h1, h2⟩ := mem_ready hs hj
      have hjn : j < ops.size := (Array.getElem?_eq_some_iff.1 ho).1
      obtain ⟨r, hr⟩ := recAt_some (R := R) (k := j) (by omega)
      refine inv_step ro dp hok hR hr0 hf0 hcl h1 ho hr h2 hI (fun a' w' hI' => ?_)
      refine ih _ a' w' (by simp [hs]) ?_ ?_ ?_
      · rw [lst_set (by omega)]; exact closed_add hcl ho h2
      · rw [lst_set (by omega)]
        have := left_add hjn h1
        omega
      · rw [lst_set (by omega)]; exact hI'

theorem lst_none (n : Nat) : lst (Array.replicate n false) = fun _ => false := by
  funext k
  unfold lst
  rw [Array.getD_eq_getD_getElem?, Array.getElem?_replicate]
  split <;> rfl

theorem tmpsF_none {ops : Array Oper} {τ0 : Array Value} : ∀ R : List Rec, tmpsF ops τ0 (fun _ => false) R = τ0
  | [] => rfl
  | r :: R => by simp only [tmpsF, cond_false]; exact tmpsF_none R

theorem gather_none {base : List (Nat × Obj)} : ∀ R : List Rec, gather (fun _ => false) R base = base
  | [] => rfl
  | r :: R => by rw [gather_cons]; exact gather_none R

section
variable {P : Program} {C : Cfg} (hC : C.OK P) {call : FuncId → Array Value → AH → Option (Value × AH)} (hcall : ∀ f args h v h', call f args h = some (v, h') → CallOK P f args h v h')
  (hnext : ∀ f args h v h', call f args h = some (v, h') → h.next ≤ h'.next) (hm : P.follows .mixedOrders = true)
include hC hcall hnext hm

theorem adraw_ok (ro : Option Nat) (dp : Nat) {ops : Array Oper} {id : Nat} {Q : Exit → Act → World → Prop} {τ τ' : Array Value} {h h' : AH} (hok : drawOk ops (Region.before ops) = true)
    (ha : adraw P C call ops (Region.before ops) h.blocks ops.toList [] false h τ = some (τ', h')) (N : Emb) (w : World) (a : Act) (hτ : CRel N τ a.tmps) (hr : HRel P N h w) (hf : Fresh N h h')
    (hq : ∀ N' a' w', CRel N' τ' a'.tmps → a'.defers = a.defers → Ext P N h w N' h' w' → Q .normal a' w') : (Code.region id ops true).wpIn (wideR ro) dp P Q a w := by
  obtain ⟨R, p, gn, hR, rfl, hlen⟩ := adraw_run hC hcall hnext (ops := ops) (h0 := h) (τ0 := τ) ops.toList [] false h τ τ' h' .nil rfl ha
  have hnx := hR.next_le
  have hf : Fresh N h gn := fun i q1 q2 => hf i q1 (by rw [finalH_next]; exact q2)
  refine wpIn_region_any hm ?_
  refine inv_any ro dp hok hR hlen (a0 := a) (w0 := w) hr hf hq ops.size _ a _ (by simp) ?_ ?_ ?_
  · rw [lst_none]; intro k o _ hk; cases hk
  · rw [lst_none]; simp [left]
  · rw [lst_none]
    refine ⟨N, { h with next := gn.next }, fun _ _ _ _ _ _ => rfl, by rw [tmpsF_none]; exact hτ, rfl, fun j r hj _ i q1 q2 => ?_, ?_, rfl, .inl ⟨fun _ _ _ _ => rfl, rfl, by rw [gather_none]⟩⟩
    · have := hR.ranges.1 j r hj
      exact hf i (by omega) (by omega)
    · exact {
        le := Emb.le_refl N
        new := fun i e x y => by rw [x] at y; cases y
        newF := fun i e x y => by rw [x] at y; cases y
        rel := ⟨fun i o hi => hr.here i o hi, fun i j o p e f hi hj => hr.inj i j o p e f hi hj, fun i o hi => Nat.lt_of_lt_of_le (hr.ids i o hi) hnx, fun b c hb => hr.froz b c hb, hr.req⟩
        size := Nat.le_refl _
        keep := fun _ _ _ => rfl
        tape := rfl
        os := rfl
        output := rfl
        alive := fun i o hi => .inl ⟨o, hi⟩
        nxt := hnx
        low := Nat.le_refl _
        old := fun _ _ _ => rfl }
end

/-- How code ends. -/
def AExit.to : AExit → Exit
  | .normal => .normal
  | .exit id => .exit id
  | .ret => .ret

/-- What the evaluator says of code. -/
def CodeOK (P : Program) (c : Code) (τ : Array Value) (h : AH) (e : AExit) (τ' : Array Value) (h' : AH) : Prop :=
  ∀ (ro : Option Nat) (dp : Nat) (N : Emb) (w : World) (a : Act) (Q : Exit → Act → World → Prop), CRel N τ a.tmps → HRel P N h w → Fresh N h h' →
    (∀ N' a' w', CRel N' τ' a'.tmps → a'.defers = a.defers → Ext P N h w N' h' w' → Q e.to a' w') → c.wpIn (wideR ro) dp P Q a w

theorem fresh_rest {P : Program} {N N' : Emb} {h h1 h' : AH} {w w1 : World} (hf : Fresh N h h') (hE : Ext P N h w N' h1 w1) (hn : h1.next ≤ h'.next) : Fresh N h h1 ∧ Fresh N' h1 h' := by
  refine ⟨fun k x y => hf k x (Nat.lt_of_lt_of_le y hn), fun k x y => ?_⟩
  cases hk : N' k with
  | none => rfl
  | some e =>
    cases hk0 : N k with
    | some f => rw [hf k (Nat.le_trans hE.nxt x) y] at hk0; cases hk0
    | none => have := (hE.new k e hk hk0).2.1; omega

theorem acallWith_ok {P : Program} {C : Cfg} (hC : C.OK P) {code : Code → Array Value → AH → Option (AExit × Array Value × AH)} (hcode : ∀ c τ h e τ' h', code c τ h = some (e, τ', h') → CodeOK P c τ h e τ' h')
    {f : FuncId} {args : Array Value} {h h' : AH} {v : Value} (ha : acallWith P C code f args h = some (v, h')) : CallOK P f args h v h' := by
  unfold acallWith at ha
  split at ha
  · rename_i r hs
    cases ha
    exact (hC.spec _ _ _ _ _ hs).1
  · split at ha
    · cases ha
    · rename_i fn hfn
      split at ha
      · cases ha
      · rename_i c hc
        split at ha
        · cases ha
        · cases ha
        · rename_i e τ h1 hne hrun
          split at ha
          · cases ha
          · rename_i u hu
            cases ha
            intro N w args' hargs hr hf
            refine calls_of_wp hfn hc ?_
            have hsz : args.size = args'.size := hargs.1
            have hrep : CRel N ⟨List.replicate (fn.ntmps - args.size) undef⟩ ⟨List.replicate (fn.ntmps - args'.size) undef⟩ := by
              rw [← hsz]
              refine ⟨rfl, fun i x y p q => ?_⟩
              rw [p] at q
              cases q
              simp only [List.getElem?_toArray, List.getElem?_replicate] at p
              split at p
              · cases p; exact undef_rel N
              · cases p
            have htm : CRel N ⟨args.toList ++ List.replicate (fn.ntmps - args.size) undef⟩ (args' ++ Array.replicate (fn.ntmps - args'.size) undef) := by
              have := CRel.append (a := args.toList) (a' := args'.toList) (by simpa using hargs) hrep
              have e2 : (⟨args'.toList ++ List.replicate (fn.ntmps - args'.size) undef⟩ : Array Value) = args' ++ Array.replicate (fn.ntmps - args'.size) undef := by apply Array.ext'; simp
              rw [e2] at this
              exact this
            refine wpIn_wide.1 (hcode _ _ _ _ _ _ hrun none 0 N w _ _ htm hr hf ?_)
            intro N' a' w' h2 h3 h4
            obtain ⟨v', h5, h6⟩ := aresultV_ok hu h2 h4.rel
            have post : a'.defers = [] ∧ ∃ v₁, (results fn a'.tmps).run P w' = .ok v₁ w' ∧ ∃ N'' v'', Ending.returned v₁ = .returned v'' ∧ VRel N'' v v'' ∧ Ext P N h w N'' h' w' :=
              ⟨h3, v', h5, N', v', rfl, h6, h4⟩
            cases e with
            | normal => exact post
            | ret => exact post
            | exit id => exact (hne id rfl).elim

theorem stepR_scope {P : Program} {b : Frame} {a : Act} {k : List Item} {cs : List Frame} {w : World} {c : Code} : step P (lone (b.atR a (.code (.scope c) :: k)) cs w) = .next (lone (b.atR a (.code c :: .inScope c :: k)) cs w) :=
  step_lone_go (by simp [stepG, stepG.exec, Frame.atR])
theorem stepR_inScope {P : Program} {b : Frame} {a : Act} {k : List Item} {cs : List Frame} {w : World} {c : Code} : step P (lone (b.atR a (.inScope c :: k)) cs w) = .next (lone (b.atR a k) cs w) :=
  step_lone_go (by simp [stepG, stepG.exec, Frame.atR])
theorem wpIn_scope_straight {F : Fence} {n : Nat} {P : Program} {Q : Exit → Act → World → Prop} {a : Act} {w : World} {c : Code} (h : c.wpIn F n P (Exit.noGoto Q) a w) : (Code.scope c).wpIn F n P Q a w := by
  intro b k cs hro hb hr
  have h0 : (lone (b.atR a (.code (.scope c) :: k)) cs w).fenced P F := fenced_calm hb hr rfl
  obtain ⟨e, a₁, w₁, hq, harr⟩ := h b (.inScope c :: k) cs hro hb hr
  cases e with
  | normal => exact ⟨.normal, a₁, w₁, hq, .head h0 stepR_scope (StepsIn.trans harr (.one (fenced_calm hb hr rfl) stepR_inScope))⟩
  | exit id =>
    have hx : exitTo id (.inScope c :: k) = exitTo id k := by simp [exitTo]
    exact ⟨.exit id, a₁, w₁, hq, fun k' hk => .head h0 stepR_scope (harr.1 k' (by rw [hx]; exact hk)),
      fun hr' hk => let ⟨k₁, h1, h2⟩ := harr.2 hr' (by rw [hx]; exact hk); ⟨k₁, h1, .head h0 stepR_scope h2⟩⟩
  | goto l => exact hq.elim
  | ret => exact ⟨_, a₁, w₁, hq, .of_steps (.one h0 stepR_scope) harr⟩
  | panic ch => exact ⟨_, a₁, w₁, hq, .of_steps (.one h0 stepR_scope) harr⟩
  | outgrown => exact ⟨_, a₁, w₁, hq, .of_steps (.one h0 stepR_scope) harr⟩
theorem acode_both {P : Program} {C : Cfg} (hC : C.OK P) (hm : P.follows .mixedOrders = true) : ∀ (n : Nat),
    (∀ (b : Code) (τ : Array Value) (h : AH) (e : AExit) (τ' : Array Value) (h' : AH), acode P C n (.loop b) τ h = some (e, τ', h') →
      ∀ (ro : Option Nat) (dp : Nat) (N : Emb) (w : World) (a : Act) (Q : Exit → Act → World → Prop), CRel N τ a.tmps → HRel P N h w → Fresh N h h' →
      (∀ N' a' w', CRel N' τ' a'.tmps → a'.defers = a.defers → Ext P N h w N' h' w' → Q e.to a' w') → Code.roundsIn (wideR ro) dp P b Q n a w) ∧
    ∀ (c : Code) (τ : Array Value) (h : AH) (e : AExit) (τ' : Array Value) (h' : AH), acode P C n c τ h = some (e, τ', h') → CodeOK P c τ h e τ' h'
  | 0 => ⟨fun b τ h e τ' h' ha => by simp [acode] at ha, fun c τ h e τ' h' ha => by simp [acode] at ha⟩
  | n + 1 => by
    obtain ⟨ihl, ih⟩ := acode_both hC hm n
    have inx := acode_next hC n
    have hloop : ∀ (b : Code) (τ : Array Value) (h : AH) (e : AExit) (τ' : Array Value) (h' : AH), acode P C (n + 1) (.loop b) τ h = some (e, τ', h') →
      ∀ (ro : Option Nat) (dp : Nat) (N : Emb) (w : World) (a : Act) (Q : Exit → Act → World → Prop), CRel N τ a.tmps → HRel P N h w → Fresh N h h' →
      (∀ N' a' w', CRel N' τ' a'.tmps → a'.defers = a.defers → Ext P N h w N' h' w' → Q e.to a' w') → Code.roundsIn (wideR ro) dp P b Q (n + 1) a w := by
      intro b τ h e τ' h' ha ro dp N w a Q hτ hr hf hq
      rw [roundsIn_succ]
      unfold acode at ha
      simp only at ha
      split at ha
      · rename_i τ1 h1 hx
        have hn1 := inx _ _ _ _ _ _ ha
        refine ih _ _ _ _ _ _ hx ro dp N w a _ hτ hr (fun k p q => hf k p (Nat.lt_of_lt_of_le q hn1)) (fun N1 a1 w1 h3 h4 h5 => ?_)
        obtain ⟨hf1, hf2⟩ := fresh_rest hf h5 hn1
        exact ihl _ _ _ _ _ _ ha ro dp N1 w1 a1 Q h3 h5.rel hf2 (fun N2 a2 w2 h6 h7 h8 => hq N2 a2 w2 h6 (by rw [h7, h4]) (h5.trans h8 hf1))
      · rename_i hne
        refine ih _ _ _ _ _ _ ha ro dp N w a _ hτ hr hf (fun N1 a1 w1 h3 h4 h5 => ?_)
        have := hq N1 a1 w1 h3 h4 h5
        cases e with
        | normal => exact (hne τ' h' ha).elim
        | exit id => exact this
        | ret => exact this
    refine ⟨hloop, ?_⟩
    intro c τ h e τ' h' ha
    have hcall : ∀ f args h v h', acallWith P C (acode P C n) f args h = some (v, h') → CallOK P f args h v h' := fun f args h v h' hx => acallWith_ok hC ih hx
    have hnext : ∀ f args h v h', acallWith P C (acode P C n) f args h = some (v, h') → h.next ≤ h'.next := fun f args h v h' hx => acallWith_next hC inx hx
    intro ro dp N w a Q hτ hr hf hq
    have ha0 := ha
    unfold acode at ha
    split at ha
    · cases ha; exact wpIn_skip (hq N a w hτ rfl (Ext.refl hr))
    · cases ha; exact wpIn_label (hq N a w hτ rfl (Ext.refl hr))
    · -- scope
      rename_i b
      refine wpIn_scope_straight ?_
      refine ih _ _ _ _ _ _ ha ro dp N w a _ hτ hr hf (fun N' a' w' h1 h2 h3 => ?_)
      have := hq N' a' w' h1 h2 h3
      cases e <;> exact this
    · -- region
      rename_i id ops draw
      split at ha
      · split at ha
        · rename_i τ1 h1 hx
          cases ha
          exact wpIn_region (aops_ok hC hcall hnext _ _ _ _ _ hx N w a hτ hr hf hq)
        · cases ha
      · obtain ⟨hok, ha⟩ := cond_some ha
        split at ha
        · rename_i τ1 h1 hx
          cases ha
          exact adraw_ok hC hcall hnext hm ro dp hok hx N w a hτ hr hf hq
        · cases ha
    · -- seq
      rename_i x y
      split at ha
      · rename_i τ1 h1 hx
        have hn1 := inx _ _ _ _ _ _ ha
        refine wpIn_seq (ih _ _ _ _ _ _ hx ro dp N w a _ hτ hr (fun k p q => hf k p (Nat.lt_of_lt_of_le q hn1)) (fun N1 a1 w1 h3 h4 h5 => ?_))
        obtain ⟨hf1, hf2⟩ := fresh_rest hf h5 hn1
        exact ih _ _ _ _ _ _ ha ro dp N1 w1 a1 Q h3 h5.rel hf2 (fun N2 a2 w2 h6 h7 h8 => hq N2 a2 w2 h6 (by rw [h7, h4]) (h5.trans h8 hf1))
      · rename_i hne
        refine wpIn_seq (ih _ _ _ _ _ _ ha ro dp N w a _ hτ hr hf (fun N1 a1 w1 h3 h4 h5 => ?_))
        have := hq N1 a1 w1 h3 h4 h5
        cases e with
        | normal => exact (hne τ' h' ha).elim
        | exit id => exact this
        | ret => exact this
    · -- cond
      rename_i x y z
      have hbool : ∀ b, evalT τ x = .bool b → a.eval x = .bool b := by
        intro b hb
        cases x with
        | tmp t =>
          have := getD_rel hτ t
          rw [show evalT τ (.tmp t) = (τ[t]?).getD undef from rfl] at hb
          rw [hb] at this
          exact this.inv_bool
        | const v => exact hb
        | global g => cases hb
        | func f => cases hb
      split at ha
      · rename_i hb
        exact wpIn_cond_true (hbool _ hb) (ih _ _ _ _ _ _ ha ro dp N w a Q hτ hr hf hq)
      · rename_i hb
        exact wpIn_cond_false (hbool _ hb) (ih _ _ _ _ _ _ ha ro dp N w a Q hτ hr hf hq)
      · cases ha
    · -- block
      rename_i id b
      refine wpIn_block ?_
      split at ha
      · rename_i i τ1 h1 hx
        rcases cond_cases ha with ⟨hb, ha⟩ | ⟨hb, ha⟩
        · cases ha
          have := Nat.eq_of_beq_eq_true hb
          subst this
          refine ih _ _ _ _ _ _ hx ro dp N w a _ hτ hr hf (fun N1 a1 w1 h3 h4 h5 => ?_)
          have := hq N1 a1 w1 h3 h4 h5
          simpa [AExit.to, Exit.inBlock] using this
        · cases ha
          have hne : i ≠ id := by intro q; rw [q, Nat.beq_refl] at hb; cases hb
          refine ih _ _ _ _ _ _ hx ro dp N w a _ hτ hr hf (fun N1 a1 w1 h3 h4 h5 => ?_)
          have := hq N1 a1 w1 h3 h4 h5
          simpa [AExit.to, Exit.inBlock, hne] using this
      · rename_i hne
        refine ih _ _ _ _ _ _ ha ro dp N w a _ hτ hr hf (fun N1 a1 w1 h3 h4 h5 => ?_)
        have := hq N1 a1 w1 h3 h4 h5
        cases e with
        | normal => exact this
        | exit i => exact (hne i τ' h' ha).elim
        | ret => exact this
    · -- loop
      rename_i b
      exact wpIn_loop_rounds (n + 1) (hloop b τ h e τ' h' ha0 ro dp N w a Q hτ hr hf hq)
    · cases ha; exact wpIn_exit (hq N a w hτ rfl (Ext.refl hr))
    · cases ha; exact wpIn_ret (hq N a w hτ rfl (Ext.refl hr))
    · cases ha

theorem acall_ok {P : Program} {C : Cfg} (hC : C.OK P) (hm : P.follows .mixedOrders = true) {n : Nat} {f : FuncId} {args : Array Value} {h h' : AH} {v : Value} (ha : acall P C n f args h = some (v, h')) : CallOK P f args h v h' :=
  acallWith_ok hC (acode_both hC hm n).2 ha

end Go.Ev

/-
  The abstract evaluator: a call without arguments, run by the kernel (EvV).
-/
namespace Go.Ev
open Go.RowKit

def isTrue : Option (Value × AH) → Bool
  | some (.bool true, _) => true
  | _ => false

theorem isTrue_some {r : Option (Value × AH)} (h : isTrue r = true) : ∃ h', r = some (.bool true, h') := by
  match r, h with
  | some (.bool true, h'), _ => exact ⟨h', rfl⟩

/-- From an empty private heap nothing that was there before is written. -/
theorem Ext.below {P : Program} {N N' : Emb} {n : Nat} {w w' : World} {h' : AH} (hE : Ext P N ⟨n, n, []⟩ w N' h' w') : Below w.heap.size w w' :=
  ⟨hE.os, hE.tape, hE.output, hE.size, fun k hk => hE.keep k hk (fun _ _ _ h => by simp [AH.get, look] at h)⟩

/-- A configuration with one function that hands its argument back. -/
def cfg1 (g : Nat) : Cfg := { ident := fun f => Nat.beq f g, spec := fun _ _ _ => none }

theorem cfg1_ok {P : Program} {g : Nat} (h : ∀ x w, (callFunc g #[x]).run P w = .ok (.value x) w) : (cfg1 g).OK P where
  ident := fun f hf x w => by have := Nat.eq_of_beq_eq_true hf; subst this; exact h x w
  spec := fun _ _ _ _ _ h => by cases h

end Go.Ev
