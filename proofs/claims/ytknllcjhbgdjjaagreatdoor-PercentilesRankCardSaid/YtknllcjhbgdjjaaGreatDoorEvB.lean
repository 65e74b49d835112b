/-
  The abstract evaluator, part EvB: it runs code on a private heap; what it says holds of every world.
-/
import Derived.Test.YtknllcjhbgdjjaaGreatDoorEvA
/-
  The abstract evaluator: operations that touch memory, and the evaluator itself (EvK).
-/
namespace Go.Ev

/-- Operations that touch memory, but for calls. -/
def aheap (P : Program) (ρ : Operand → Value) (o : Oper) (h : AH) : Option (Value × AH) :=
  match o.op with
  | .load t x => match aload P t (ρ x) h with
    | some v => some (v, h)
    | none => none
  | .store t x v => match astore P t (ρ x) (ρ v) h with
    | some h' => some (undef, h')
    | none => none
  | .alloc t => aalloc P t h
  | .box t x => some (abox t (ρ x) h)
  | .buildSlice t len parts => abuildSlice P t len (parts.toList.map fun p => (p.1, ρ p.2)) h
  | .makeSlice t l c => amakeSlice P t (ρ l) (ρ c) h
  | .slice t x lo hi none => match aslice P t (ρ x) (lo.map ρ) (hi.map ρ) h with
    | some v => some (v, h)
    | none => none
  | .convert src dst x => match ρ x with
    | .slice .. => match abytesToString P src dst (ρ x) h with
      | some v => some (v, h)
      | none => none
    | .string _ => astringToBytes P src dst (ρ x) h
    | .pointer _ => match aunsafePointer P src dst (ρ x) h with
      | some v => some (v, h)
      | none => none
    | _ => none
  | .range t x => arange P t (ρ x) h
  | .next it true => anext (ρ it) h
  | .call { callee := .builtin .append, args := ⟨[s, x]⟩, argTypes := ⟨[t, u]⟩ } => aappend P t u (ρ s) (ρ x) h
  | .call { callee := .builtin .unsafeString, args := ⟨[x, n]⟩, argTypes := ⟨[pt, _]⟩ } => aunsafeString P pt (ρ x) (ρ n) h
  | _ => none

/-- What is known beside the program's text. -/
structure Cfg where
  /-- functions without a body that hand their argument back -/
  ident : FuncId → Bool
  /-- functions that are taken by a contract -/
  spec : FuncId → Array Value → AH → Option (Value × AH)

/-- The function that a call enters, and its arguments. -/
def acallee (P : Program) (ρ : Operand → Value) (o : Oper) : Option (FuncId × Array Value) :=
  match o.op with
  | .call { callee := .value f, args, .. } => match ρ f with
    | .func (.func g) first captured => match P.funcs[g]? with
      | some fn => match fn.body with
        | some _ => cond (fn.name == "runtime.NumGoroutine") none (some (g, ⟨first.toList ++ args.toList.map ρ ++ captured.toList⟩))
        | none => none
      | none => none
    | _ => none
  | _ => none

def aident (C : Cfg) (ρ : Operand → Value) (o : Oper) : Option Value :=
  match o.op with
  | .call { callee := .value f, args := ⟨[x]⟩, .. } => match ρ f with
    | .func (.func g) ⟨[]⟩ ⟨[]⟩ => cond (C.ident g) (some (ρ x)) none
    | _ => none
  | _ => none

/-- An operation that is not pure. -/
def aimp (P : Program) (C : Cfg) (call : FuncId → Array Value → AH → Option (Value × AH)) (ρ : Operand → Value) (o : Oper) (h : AH) : Option (Value × AH) :=
  match acallee P ρ o with
  | some (g, args) => call g args h
  | none => match aident C ρ o with
    | some v => some (v, h)
    | none => aheap P ρ o h

def evalT (τ : Array Value) : Operand → Value
  | .tmp t => (τ[t]?).getD undef
  | .const v => v
  | .global g => .pointer (some ⟨g, 0, none⟩)
  | .func f => .func (.func f) #[] #[]

def okOperand : Operand → Bool
  | .const v => flat v
  | .global _ => false
  | _ => true

def okOps (o : Oper) : Bool := o.op.operands.toList.all okOperand

def putT (τ : Array Value) (d : Option Tmp) (v : Value) : Array Value :=
  match d with
  | some d => τ.setIfInBounds d v
  | none => τ

/-- A region whose operations come in the text's order. -/
def aops (P : Program) (C : Cfg) (call : FuncId → Array Value → AH → Option (Value × AH)) (ops : Array Oper) : List Nat → Array Value → AH → Option (Array Value × AH)
  | [], τ, h => some (τ, h)
  | i :: rest, τ, h => match ops[i]? with
    | none => aops P C call ops rest τ h
    | some o => cond (Region.wanted o (yielded ops τ))
        (cond (okOps o)
          (match apure P (evalT τ) o with
          | some v => aops P C call ops rest (putT τ o.dst v) h
          | none => match aimp P C call (evalT τ) o h with
            | some (v, h') => aops P C call ops rest (putT τ o.dst v) h'
            | none => none) none)
        (aops P C call ops rest (putT τ o.dst undef) h)

/-- What became of one operation of a region that draws its order. -/
structure Rec where
  heap : Bool
  sq : Bool
  v : Value
  new : List (Nat × Obj)
  s : Nat
  e : Nat
  after : AH

def bitOf (B : Array Nat) (i j : Nat) : Bool := (B.getD j 0).testBit i

/-- The blocks that some of the operations have made, before others. -/
def gather (sel : Nat → Bool) : List Rec → List (Nat × Obj) → List (Nat × Obj)
  | [], base => base
  | r :: rs, base => match r.new with
    | [] => gather sel rs base
    | new => cond (sel rs.length) (new ++ gather sel rs base) (gather sel rs base)

def heapBefore (B : Array Nat) (j : Nat) : List Rec → Bool
  | [] => true
  | r :: rs => (!r.heap || bitOf B rs.length j) && heapBefore B j rs

def newest (s e : Nat) (l : List (Nat × Obj)) : List (Nat × Obj) := l.takeWhile fun p => Nat.ble s p.1 && Nat.blt p.1 e

def adraw (P : Program) (C : Cfg) (call : FuncId → Array Value → AH → Option (Value × AH)) (ops : Array Oper) (B : Array Nat) (base : List (Nat × Obj)) :
    List Oper → List Rec → Bool → AH → Array Value → Option (Array Value × AH)
  | [], _, _, g, τ => some (τ, g)
  | o :: rest, recs, ph, g, τ => cond (Region.wanted o (yielded ops τ))
      (cond (okOps o)
        (match apure P (evalT τ) o with
        | some v => adraw P C call ops B base rest (⟨false, false, v, [], g.next, g.next, g⟩ :: recs) ph g (putT τ o.dst v)
        | none => match aimp P C call (evalT τ) o (cond ph g { next := g.next, low := g.next, blocks := gather (fun i => bitOf B i recs.length) recs base }) with
          | none => none
          | some (v, h') => cond (ph || Nat.blt h'.low g.next)
              (cond (heapBefore B recs.length recs)
                (adraw P C call ops B base rest (⟨true, true, v, [], g.next, h'.next, { h' with low := min g.low h'.low }⟩ :: recs) true { h' with low := min g.low h'.low } (putT τ o.dst v)) none)
              (adraw P C call ops B base rest (⟨true, false, v, newest g.next h'.next h'.blocks, g.next, h'.next, g⟩ :: recs) false { next := h'.next, low := g.low, blocks := newest g.next h'.next h'.blocks ++ g.blocks } (putT τ o.dst v))) none)
      (adraw P C call ops B base rest (⟨false, false, undef, [], g.next, g.next, g⟩ :: recs) ph g (putT τ o.dst undef))

/-- The temporaries that an operation looks at. -/
def looks (ops : Array Oper) (o : Oper) : List Tmp :=
  (o.op.operands.toList.filterMap fun | .tmp t => some t | _ => none) ++
  (match o.guard with
   | some (g, _) => ((ops[g]?).bind (·.dst)).toList
   | none => [])

def inOrder (B : Array Nat) (i j : Nat) : Bool := Nat.beq i j || bitOf B i j || bitOf B j i

/-- What a region that draws its order must meet. -/
def drawOk (ops : Array Oper) (B : Array Nat) : Bool :=
  let l := ops.toList.zipIdx
  l.all fun (o, j) =>
    (o.after.toList.all fun e => !Region.binds .any e || Nat.blt e.on j) &&
    (let ts := o.dst.toList ++ looks ops o
     l.all fun (p, k) => match p.dst with
       | none => true
       | some d => !ts.contains d || inOrder B k j)

inductive AExit where
  | normal
  | exit (id : Nat)
  | ret

/-- The results of a function. -/
def aresult (P : Program) (τ : Array Value) (h : AH) : ResultVar → Option Value
  | .tmp t => some ((τ[t]?).getD undef)
  | .cell a t => match (τ[a]?).getD undef with
    | .pointer (some ad) => aload P t (.pointer (some ad)) h
    | _ => none

def aresults (P : Program) (τ : Array Value) (h : AH) : List ResultVar → Option (List Value)
  | [] => some []
  | r :: rs => match aresult P τ h r with
    | none => none
    | some v => match aresults P τ h rs with
      | none => none
      | some vs => some (v :: vs)

def aresultV (P : Program) (τ : Array Value) (h : AH) (rs : List ResultVar) : Option Value :=
  match aresults P τ h rs with
  | some [v] => some v
  | some vs => some (.tuple ⟨vs⟩)
  | none => none

/-- A function's body, run by 'code'. -/
def acallWith (P : Program) (C : Cfg) (code : Code → Array Value → AH → Option (AExit × Array Value × AH)) (f : FuncId) (args : Array Value) (h : AH) : Option (Value × AH) :=
  match C.spec f args h with
  | some r => some r
  | none => match P.funcs[f]? with
    | none => none
    | some fn => match fn.body with
      | none => none
      | some c => match code c ⟨args.toList ++ List.replicate (fn.ntmps - args.size) undef⟩ h with
        | none => none
        | some (.exit _, _, _) => none
        | some (_, τ, h') => match aresultV P τ h' fn.results.toList with
          | none => none
          | some v => some (v, h')

def acode (P : Program) (C : Cfg) : Nat → Code → Array Value → AH → Option (AExit × Array Value × AH)
  | 0, _, _, _ => none
  | n + 1, c, τ, h => match c with
    | .skip => some (.normal, τ, h)
    | .label _ => some (.normal, τ, h)
    | .scope b => acode P C n b τ h
    | .region _ ops draw => match draw with
      | false => match aops P C (acallWith P C (acode P C n)) ops (List.range ops.size) τ h with
        | some (τ', h') => some (.normal, τ', h')
        | none => none
      | true => cond (drawOk ops (Region.before ops))
          (match adraw P C (acallWith P C (acode P C n)) ops (Region.before ops) h.blocks ops.toList [] false h τ with
          | some (τ', h') => some (.normal, τ', h')
          | none => none) none
    | .seq a b => match acode P C n a τ h with
      | some (.normal, τ', h') => acode P C n b τ' h'
      | r => r
    | .cond x a b => match evalT τ x with
      | .bool true => acode P C n a τ h
      | .bool false => acode P C n b τ h
      | _ => none
    | .block id b => match acode P C n b τ h with
      | some (.exit i, τ', h') => cond (Nat.beq i id) (some (.normal, τ', h')) (some (.exit i, τ', h'))
      | r => r
    | .loop b => match acode P C n b τ h with
      | some (.normal, τ', h') => acode P C n (.loop b) τ' h'
      | r => r
    | .exit id => some (.exit id, τ, h)
    | .ret => some (.ret, τ, h)
    | _ => none

def acall (P : Program) (C : Cfg) (n : Nat) (f : FuncId) (args : Array Value) (h : AH) : Option (Value × AH) := acallWith P C (acode P C n) f args h

end Go.Ev

/-
  The abstract evaluator: soundness of single operations (EvL).
-/
namespace Go.Ev

def CallOK (P : Program) (f : FuncId) (args : Array Value) (h : AH) (v : Value) (h' : AH) : Prop :=
  ∀ (N : Emb) (w : World) (args' : Array Value), CRel N args args' → HRel P N h w → Fresh N h h' →
    Calls P f args' w fun e w' => ∃ N' v', e = .returned v' ∧ VRel N' v v' ∧ Ext P N h w N' h' w'

def ImpOK (P : Program) (o : Oper) (ρ : Operand → Value) (h : AH) (v : Value) (h' : AH) : Prop :=
  ∀ (N : Emb) (w : World) (a : Act), (∀ x ∈ o.op.operands, VRel N (ρ x) (a.eval x)) → HRel P N h w → Fresh N h h' → ∀ (Q : Exit → Act → World → Prop),
    o.wp P a w (fun a' w' => ∃ N' v', a' = a.put o.dst v' ∧ VRel N' v v' ∧ Ext P N h w N' h' w') Q

theorem HeapOK.imp {P : Program} {o : Oper} {ρ : Operand → Value} {h h' : AH} {v : Value} (hh : HeapOK P o ρ h v h') : ImpOK P o ρ h v h' := by
  intro N w a hρ hr hf Q
  obtain ⟨n, v', w', N', h1, h2, h3, h4⟩ := hh N w a.eval hρ hr hf
  unfold Oper.wp
  rw [h1]
  rcases h2 with rfl | ⟨rfl, rfl⟩
  · exact ⟨N', v', rfl, h3, h4⟩
  · exact ⟨N', undef, rfl, h3, h4⟩

theorem optRel {N : Emb} {ρ ρ' : Operand → Value} {x : Option Operand} (h : ∀ y ∈ x.toArray, VRel N (ρ y) (ρ' y)) : OptRel N (x.map ρ) (x.map ρ') := by
  cases x with
  | none => trivial
  | some y => exact h y (by simp)

theorem undef_rel (N : Emb) : VRel N undef undef := .tuple #[] #[] rfl (by simp)

theorem aheap_ok {P : Program} {ρ : Operand → Value} {o : Oper} {h h' : AH} {v : Value} (ha : aheap P ρ o h = some (v, h')) : HeapOK P o ρ h v h' := by
  intro N w ρ' hρ hr hf
  unfold aheap at ha
  split at ha <;> rename_i hop
  · -- load
    rename_i t x
    split at ha
    · rename_i u hu
      cases ha
      obtain ⟨v', h1, h2⟩ := aload_ok hu (hρ x (by simp [hop, Op.operands])) hr
      exact ⟨_, v', w, N, by simp [execOp, hop, h1], .inl rfl, h2, Ext.refl hr⟩
    · cases ha
  · -- store
    rename_i t x y
    split at ha
    · rename_i h1 hs
      cases ha
      obtain ⟨w', h2, h3⟩ := astore_ok hs (hρ x (by simp [hop, Op.operands])) (hρ y (by simp [hop, Op.operands])) hr
      exact ⟨.skip, undef, w', N, by simp [execOp, hop, h2], .inr ⟨rfl, rfl⟩, undef_rel N, h3⟩
    · cases ha
  · rename_i t
    obtain ⟨v', w', N', h1, h2, h3⟩ := aalloc_ok ha hr hf
    exact ⟨_, v', w', N', by simp [execOp, hop, h1], .inl rfl, h2, h3⟩
  · rename_i t x
    cases ha
    obtain ⟨v', w', N', h1, h2, h3⟩ := abox_ok (P := P) (t := t) (hρ x (by simp [hop, Op.operands])) hr hf
    exact ⟨_, v', w', N', by simp [execOp, hop, h1], .inl rfl, h2, h3⟩
  · rename_i t len ps
    obtain ⟨v', w', N', h1, h2, h3⟩ := abuildSlice_ok (N := N) (ρ' := ρ') (fun p hp => hρ p.2 (by simp only [hop, Op.operands]; exact List.mem_toArray.2 (List.mem_map.2 ⟨p, hp, rfl⟩))) ha hr hf
    exact ⟨_, v', w', N', by simp [execOp, hop, h1], .inl rfl, h2, h3⟩
  · rename_i t l c
    obtain ⟨v', w', N', h1, h2, h3⟩ := amakeSlice_ok ha (hρ l (by simp [hop, Op.operands])) (hρ c (by simp [hop, Op.operands])) hr hf
    exact ⟨_, v', w', N', by simp [execOp, hop, h1], .inl rfl, h2, h3⟩
  · rename_i t x lo hi
    split at ha
    · rename_i u hu
      cases ha
      obtain ⟨v', h1, h2⟩ := aslice_ok hu (hρ x (by simp [hop, Op.operands])) (optRel (ρ' := ρ') fun y hy => hρ y (by simp only [hop, Op.operands, Array.mem_append]; simp only [hy, true_or, or_true]))
        (optRel (ρ' := ρ') fun y hy => hρ y (by simp only [hop, Op.operands, Array.mem_append]; simp only [hy, true_or, or_true])) hr
      exact ⟨_, v', w, N, by simp [execOp, hop, h1], .inl rfl, h2, Ext.refl hr⟩
    · cases ha
  · -- convert
    rename_i src dst x
    have hx := hρ x (by simp [hop, Op.operands])
    split at ha
    · split at ha
      · rename_i u hu
        cases ha
        obtain ⟨v', h1, h2⟩ := abytesToString_ok hu hx hr
        exact ⟨_, v', w, N, by simp [execOp, hop, h1], .inl rfl, h2, Ext.refl hr⟩
      · cases ha
    · obtain ⟨v', w', N', h1, h2, h3⟩ := astringToBytes_ok ha hx hr hf
      exact ⟨_, v', w', N', by simp [execOp, hop, h1], .inl rfl, h2, h3⟩
    · split at ha
      · rename_i u hu
        cases ha
        obtain ⟨v', h1, h2⟩ := aunsafePointer_ok hu hx hr
        exact ⟨_, v', w, N, by simp [execOp, hop, h1], .inl rfl, h2, Ext.refl hr⟩
      · cases ha
    · cases ha
  · rename_i t x
    obtain ⟨v', w', N', h1, h2, h3⟩ := arange_ok ha (hρ x (by simp [hop, Op.operands])) hr hf
    exact ⟨_, v', w', N', by simp [execOp, hop, h1], .inl rfl, h2, h3⟩
  · rename_i it
    obtain ⟨v', w', h1, h2, h3⟩ := anext_ok (ty := o.type) ha (hρ it (by simp [hop, Op.operands])) hr
    exact ⟨_, v', w', N, by simp [execOp, hop, h1], .inl rfl, h2, h3⟩
  · rename_i s x t u
    obtain ⟨v', w', N', h1, h2, h3⟩ := aappend_ok (ty := o.type) ha (hρ s (by simp [hop, Op.operands, Call.operands])) (hρ x (by simp [hop, Op.operands, Call.operands])) hr hf
    exact ⟨_, v', w', N', by simp [execOp, hop, resolve, invoke, builtin, h1], .inl rfl, h2, h3⟩
  · rename_i x n pt it
    obtain ⟨v', w', h1, h2, h3⟩ := aunsafeString_ok (it := it) (ty := o.type) ha (hρ x (by simp [hop, Op.operands, Call.operands])) (hρ n (by simp [hop, Op.operands, Call.operands])) hr
    exact ⟨_, v', w', N, by simp [execOp, hop, resolve, invoke, builtin, h1], .inl rfl, h2, h3⟩
  · cases ha

/-- What the configuration promises. -/
structure Cfg.OK (P : Program) (C : Cfg) : Prop where
  ident : ∀ g, C.ident g = true → ∀ x w, (callFunc g #[x]).run P w = .ok (.value x) w
  spec : ∀ f args h v h', C.spec f args h = some (v, h') → CallOK P f args h v h' ∧ h.next ≤ h'.next

theorem map_mk (ρ : Operand → Value) (xs : Array Operand) : (⟨xs.toList.map ρ⟩ : Array Value) = xs.map ρ := by apply Array.ext'; simp

theorem aimp_ok {P : Program} {C : Cfg} (hC : C.OK P) {call : FuncId → Array Value → AH → Option (Value × AH)} (hcall : ∀ f args h v h', call f args h = some (v, h') → CallOK P f args h v h')
    {ρ : Operand → Value} {o : Oper} {h h' : AH} {v : Value} (ha : aimp P C call ρ o h = some (v, h')) : ImpOK P o ρ h v h' := by
  unfold aimp at ha
  split at ha
  · rename_i g args hg
    have hok := hcall _ _ _ _ _ ha
    intro N w a hρ hr hf Q
    unfold acallee at hg
    split at hg
    · rename_i f xs ts hop
      have hfv := hρ f (by simp [hop, Op.operands, Call.operands])
      split at hg
      · rename_i g' first captured hval
        rw [hval] at hfv
        obtain ⟨g₀, x', y', e1, e2, hx, hy⟩ := hfv.inv_func
        cases e1
        split at hg
        · rename_i fn hfn
          split at hg
          · rename_i body hbody
            cases hnm : (fn.name == "runtime.NumGoroutine") with
            | true => rw [hnm] at hg; cases hg
            | false =>
              rw [hnm] at hg
              cases hg
              have hargs : CRel N (xs.map ρ) (xs.map a.eval) := CRel.map fun x hx => hρ x (by simp [hop, Op.operands, Call.operands, hx])
              have hall : CRel N ⟨first.toList ++ xs.toList.map ρ ++ captured.toList⟩ (x' ++ xs.map a.eval ++ y') := by
                have h1 := CRel.append (a := first.toList) (a' := x'.toList) (b := xs.toList.map ρ) (b' := xs.toList.map a.eval) (by simpa using hx) (by rw [map_mk, map_mk]; exact hargs)
                have h2 := CRel.append h1 (b := captured.toList) (b' := y'.toList) (by simpa using hy)
                have e : (⟨x'.toList ++ xs.toList.map a.eval ++ y'.toList⟩ : Array Value) = x' ++ xs.map a.eval ++ y' := by apply Array.ext'; simp
                rw [e] at h2
                exact h2
              have hrun : (execOp a.eval o).run P w = .ok (.enter g (x' ++ xs.map a.eval ++ y')) w := by
                have hc : (callFunc g (x' ++ xs.map a.eval ++ y')).run P w = .ok (.enter g (x' ++ xs.map a.eval ++ y')) w := by
                  have hne : ¬ fn.name = "runtime.NumGoroutine" := by simpa using hnm
                  simp [callFunc, hfn, hne, hbody]
                simp only [execOp, hop, resolve, e2, Deferred.ofValue, Sem.run_bind, Sem.run_pure, Result.andThen_ok, invoke]
                exact hc
              unfold Oper.wp
              rw [hrun]
              refine (hok N w _ hall hr hf).mono ?_
              rintro e w' ⟨N', v', rfl, h1, h2⟩
              exact ⟨N', v', rfl, h1, h2⟩
          · cases hg
        · cases hg
      · cases hg
    · cases hg
  · split at ha
    · rename_i u hu
      cases ha
      unfold aident at hu
      split at hu
      · rename_i f x ts hop
        split at hu
        · rename_i g hval
          cases hg : C.ident g with
          | false => rw [hg] at hu; cases hu
          | true =>
            rw [hg] at hu
            cases hu
            intro N w a hρ hr hf Q
            have hfv := hρ f (by simp [hop, Op.operands, Call.operands])
            have hxv := hρ x (by simp [hop, Op.operands, Call.operands])
            rw [hval] at hfv
            obtain ⟨g₀, x', y', e1, e2, hx, hy⟩ := hfv.inv_func
            cases e1
            have hx0 : x' = #[] := by simpa using hx.1.symm
            have hy0 : y' = #[] := by simpa using hy.1.symm
            subst hx0 hy0
            have hrun : (execOp a.eval o).run P w = .ok (.value (a.eval x)) w := by
              have := hC.ident g hg (a.eval x) w
              simp only [execOp, hop, resolve, e2, Deferred.ofValue, Sem.run_bind, Sem.run_pure, Result.andThen_ok, invoke]
              simpa using this
            unfold Oper.wp
            rw [hrun]
            exact ⟨N, a.eval x, rfl, hxv, Ext.refl hr⟩
        · cases hu
      · cases hu
    · exact (aheap_ok ha).imp

end Go.Ev

/-
  The abstract evaluator: names only grow (EvM).
-/
namespace Go.Ev

theorem storeA_next {h h' : AH} {a : Addr} {vs : List Value} (hs : storeA h a vs = some h') : h'.next = h.next := by
  unfold storeA at hs
  split at hs
  · cases hs; rfl
  · split at hs
    · rename_i c t fr hb
      cases hc : (a.spot.isNone && Nat.ble (a.off + vs.length) c.size && (Nat.beq fr.1 fr.2 || Nat.ble (a.off + vs.length) fr.1 || Nat.ble fr.2 a.off) && vs.all oneCell) <;> rw [hc] at hs <;> cases hs
      rfl
    · cases hs

theorem cond_some {α : Type} {b : Bool} {x : Option α} {v : α} (h : (cond b x none) = some v) : b = true ∧ x = some v := by
  cases b
  · cases h
  · exact ⟨rfl, h⟩

theorem cond_cases {α : Type} {b : Bool} {x y : Option α} {v : α} (h : (cond b x y) = some v) : (b = true ∧ x = some v) ∨ (b = false ∧ y = some v) := by
  cases b
  · exact .inr ⟨rfl, h⟩
  · exact .inl ⟨rfl, h⟩

theorem aappend_next {P : Program} {t u : TypeId} {s x v : Value} {h h' : AH} (ha : aappend P t u s x h = some (v, h')) : h.next ≤ h'.next := by
  unfold aappend at ha
  split at ha
  · split at ha
    · cases ha
    · split at ha
      · cases ha
      · split at ha
        · cases ha
        · obtain ⟨_, ha⟩ := cond_some ha
          rcases cond_cases ha with ⟨_, ha⟩ | ⟨_, ha⟩
          · split at ha
            · cases ha; exact Nat.le_refl _
            · split at ha
              · cases ha
              · rename_i hst
                cases ha
                rw [storeA_next hst]
                exact Nat.le_refl _
          · obtain ⟨_, ha⟩ := cond_some ha
            split at ha
            · obtain ⟨_, ha⟩ := cond_some ha
              cases ha
              simp [AH.push]
            · split at ha
              · obtain ⟨_, ha⟩ := cond_some ha
                cases ha
                simp [AH.push, AH.del]
              · cases ha
  · cases ha

theorem aheap_next {P : Program} {ρ : Operand → Value} {o : Oper} {h h' : AH} {v : Value} (ha : aheap P ρ o h = some (v, h')) : h.next ≤ h'.next := by
  unfold aheap at ha
  split at ha
  · split at ha
    · cases ha; exact Nat.le_refl _
    · cases ha
  · split at ha
    · rename_i h1 hs
      cases ha
      unfold astore at hs
      split at hs
      · split at hs
        · obtain ⟨_, hs⟩ := cond_some hs
          rw [storeA_next hs]
          exact Nat.le_refl _
        · cases hs
      · cases hs
    · cases ha
  · unfold aalloc at ha
    split at ha
    · cases ha; simp [AH.push]
    · cases ha
  · cases ha; simp [AH.push]
  · unfold abuildSlice at ha
    split at ha
    · split at ha
      · cases ha
      · split at ha
        · cases ha
        · obtain ⟨_, ha⟩ := cond_some ha
          split at ha
          · cases ha; simp [AH.push]
          · cases ha
    · cases ha
  · unfold amakeSlice at ha
    split at ha
    · split at ha
      · cases ha
      · split at ha
        · cases ha
        · obtain ⟨_, ha⟩ := cond_some ha
          cases ha
          simp [AH.push]
    · cases ha
  · split at ha
    · cases ha; exact Nat.le_refl _
    · cases ha
  · split at ha
    · split at ha
      · cases ha; exact Nat.le_refl _
      · cases ha
    · unfold astringToBytes at ha
      split at ha
      · split at ha
        · obtain ⟨_, ha⟩ := cond_some ha
          cases ha
          simp [AH.push]
        · cases ha
      · cases ha
    · split at ha
      · cases ha; exact Nat.le_refl _
      · cases ha
    · cases ha
  · unfold arange at ha
    split at ha
    · cases ha; simp [AH.push]
    · cases ha
  · unfold anext at ha
    split at ha
    · split at ha
      · rename_i s pos hb
        cases hl : Nat.blt pos s.size <;> rw [hl] at ha
        · cases ha; exact Nat.le_refl _
        · simp only [cond_true] at ha
          cases ha
          exact Nat.le_refl _
      · cases ha
    · cases ha
  · exact aappend_next ha
  · unfold aunsafeString at ha
    split at ha
    · split at ha
      · split at ha
        · obtain ⟨_, ha⟩ := cond_some ha
          cases ha
          exact Nat.le_refl _
        · cases ha
      · cases ha
    · cases ha
  · cases ha

section
variable {P : Program} {C : Cfg} {call : FuncId → Array Value → AH → Option (Value × AH)} (hcall : ∀ f args h v h', call f args h = some (v, h') → h.next ≤ h'.next)
include hcall

theorem aimp_next {ρ : Operand → Value} {o : Oper} {h h' : AH} {v : Value} (ha : aimp P C call ρ o h = some (v, h')) : h.next ≤ h'.next := by
  unfold aimp at ha
  split at ha
  · exact hcall _ _ _ _ _ ha
  · split at ha
    · cases ha; exact Nat.le_refl _
    · exact aheap_next ha

theorem aops_next {ops : Array Oper} : ∀ (l : List Nat) (τ : Array Value) (h : AH) (τ' : Array Value) (h' : AH), aops P C call ops l τ h = some (τ', h') → h.next ≤ h'.next
  | [], τ, h, τ', h', ha => by simp only [aops, Option.some.injEq, Prod.mk.injEq] at ha; obtain ⟨_, rfl⟩ := ha; exact Nat.le_refl _
  | i :: l, τ, h, τ', h', ha => by
    unfold aops at ha
    split at ha
    · exact aops_next l _ _ _ _ ha
    · rename_i o ho
      cases hw : Region.wanted o (yielded ops τ) with
      | false => rw [hw] at ha; exact aops_next l _ _ _ _ ha
      | true =>
        rw [hw] at ha
        simp only [cond_true] at ha
        obtain ⟨_, ha⟩ := cond_some ha
        split at ha
        · exact aops_next l _ _ _ _ ha
        · split at ha
          · rename_i v h1 h2
            exact Nat.le_trans (aimp_next hcall h2) (aops_next l _ _ _ _ ha)
          · cases ha

theorem adraw_next {ops : Array Oper} {B : Array Nat} {base : List (Nat × Obj)} : ∀ (l : List Oper) (recs : List Rec) (ph : Bool) (g : AH) (τ : Array Value) (τ' : Array Value) (g' : AH),
    adraw P C call ops B base l recs ph g τ = some (τ', g') → g.next ≤ g'.next
  | [], recs, ph, g, τ, τ', g', ha => by simp only [adraw, Option.some.injEq, Prod.mk.injEq] at ha; obtain ⟨_, rfl⟩ := ha; exact Nat.le_refl _
  | o :: l, recs, ph, g, τ, τ', g', ha => by
    unfold adraw at ha
    cases hw : Region.wanted o (yielded ops τ) with
    | false => rw [hw] at ha; exact adraw_next l _ _ _ _ _ _ ha
    | true =>
      rw [hw] at ha
      simp only [cond_true] at ha
      obtain ⟨_, ha⟩ := cond_some ha
      split at ha
      · exact adraw_next l _ _ _ _ _ _ ha
      · split at ha
        · cases ha
        · rename_i v h1 h2
          have h3 := aimp_next hcall h2
          have h4 : (cond ph g { next := g.next, low := g.next, blocks := gather (fun i => bitOf B i recs.length) recs base } : AH).next = g.next := by cases ph <;> rfl
          rw [h4] at h3
          cases hc : (ph || Nat.blt h1.low g.next) with
          | true =>
            rw [hc] at ha
            simp only [cond_true] at ha
            obtain ⟨_, ha⟩ := cond_some ha
            have h5 := adraw_next l _ _ _ _ _ _ ha
            exact Nat.le_trans h3 h5
          | false =>
            rw [hc] at ha
            simp only [cond_false] at ha
            have h5 := adraw_next l _ _ _ _ _ _ ha
            exact Nat.le_trans h3 h5
end

theorem acallWith_next {P : Program} {C : Cfg} (hC : C.OK P) {code : Code → Array Value → AH → Option (AExit × Array Value × AH)}
    (hcode : ∀ c τ h e τ' h', code c τ h = some (e, τ', h') → h.next ≤ h'.next) {f : FuncId} {args : Array Value} {h h' : AH} {v : Value} (ha : acallWith P C code f args h = some (v, h')) : h.next ≤ h'.next := by
  unfold acallWith at ha
  split at ha
  · rename_i r hs
    cases ha
    exact (hC.spec _ _ _ _ _ hs).2
  · split at ha
    · cases ha
    · split at ha
      · cases ha
      · split at ha
        · cases ha
        · cases ha
        · rename_i e τ h1 _ hc
          split at ha
          · cases ha
          · cases ha
            exact hcode _ _ _ _ _ _ hc

theorem acode_next {P : Program} {C : Cfg} (hC : C.OK P) : ∀ (n : Nat) (c : Code) (τ : Array Value) (h : AH) (e : AExit) (τ' : Array Value) (h' : AH), acode P C n c τ h = some (e, τ', h') → h.next ≤ h'.next
  | 0, c, τ, h, e, τ', h', ha => by simp [acode] at ha
  | n + 1, c, τ, h, e, τ', h', ha => by
    have ih := acode_next hC n
    have hcall : ∀ f args h v h', acallWith P C (acode P C n) f args h = some (v, h') → h.next ≤ h'.next := fun f args h v h' hx => acallWith_next hC ih hx
    unfold acode at ha
    split at ha
    · cases ha; exact Nat.le_refl _
    · cases ha; exact Nat.le_refl _
    · exact ih _ _ _ _ _ _ ha
    · split at ha
      · split at ha
        · rename_i hx
          cases ha
          exact aops_next hcall _ _ _ _ _ hx
        · cases ha
      · obtain ⟨_, ha⟩ := cond_some ha
        split at ha
        · rename_i hx
          cases ha
          exact adraw_next hcall _ _ _ _ _ _ _ hx
        · cases ha
    · split at ha
      · rename_i hx
        exact Nat.le_trans (ih _ _ _ _ _ _ hx) (ih _ _ _ _ _ _ ha)
      · exact ih _ _ _ _ _ _ ha
    · split at ha
      · exact ih _ _ _ _ _ _ ha
      · exact ih _ _ _ _ _ _ ha
      · cases ha
    · split at ha
      · rename_i hx
        have hx' := ih _ _ _ _ _ _ hx
        rcases cond_cases ha with ⟨_, ha⟩ | ⟨_, ha⟩ <;> cases ha <;> exact hx'
      · exact ih _ _ _ _ _ _ ha
    · split at ha
      · rename_i hx
        exact Nat.le_trans (ih _ _ _ _ _ _ hx) (ih _ _ _ _ _ _ ha)
      · exact ih _ _ _ _ _ _ ha
    · cases ha; exact Nat.le_refl _
    · cases ha; exact Nat.le_refl _
    · cases ha

end Go.Ev

/-
  The abstract evaluator: regions in the text's order; results (EvN).
-/
namespace Go.Ev

theorem getD_rel {N : Emb} {τ τ' : Array Value} (h : CRel N τ τ') (t : Nat) : VRel N ((τ[t]?).getD undef) (τ'.getD t undef) := by
  cases ht : τ[t]? with
  | some v =>
    obtain ⟨v', h1, h2⟩ := h.get ht
    have : τ'.getD t undef = v' := by
      have := Array.getD_eq_getD_getElem? (xs := τ') (i := t) (d := undef)
      rw [this, h1]; rfl
    rw [this]
    exact h2
  | none =>
    have h1 : τ'[t]? = none := by
      rw [Array.getElem?_eq_none_iff] at ht ⊢
      rw [← h.1]; exact ht
    have : τ'.getD t undef = undef := by
      have := Array.getD_eq_getD_getElem? (xs := τ') (i := t) (d := undef)
      rw [this, h1]; rfl
    rw [this]
    exact undef_rel N

theorem eval_rel {N : Emb} {τ : Array Value} {a : Act} (h : CRel N τ a.tmps) {x : Operand} (hx : okOperand x = true) : VRel N (evalT τ x) (a.eval x) := by
  cases x with
  | tmp t => exact getD_rel h t
  | const v => exact flat_refl N hx
  | global g => simp [okOperand] at hx
  | func f => exact .func f _ _ _ _ rfl rfl (by simp) (by simp)

theorem okOps_mem {o : Oper} (h : okOps o = true) {x : Operand} (hx : x ∈ o.op.operands) : okOperand x = true :=
  List.all_eq_true.1 h x (Array.mem_toList_iff.2 hx)

theorem bool_rel {N : Emb} {v v' : Value} (h : VRel N v v') : (match v with | .bool b => some b | _ => none) = (match v' with | .bool b => some b | _ => none) := by
  cases h <;> rfl

/-- A temporary that is looked at, on both sides. -/
theorem yielded_rel' {N : Emb} {ops : Array Oper} {τ τ' : Array Value} (j : Nat)
    (h : ∀ t, (ops[j]?).bind (·.dst) = some t → (τ[t]? = none ∧ τ'[t]? = none) ∨ ∃ v v', τ[t]? = some v ∧ τ'[t]? = some v' ∧ VRel N v v') : yielded ops τ j = yielded ops τ' j := by
  unfold yielded
  cases hd : (ops[j]?).bind (·.dst) with
  | none => rfl
  | some t =>
    rcases h t hd with ⟨h1, h2⟩ | ⟨v, v', h1, h2, h3⟩
    · simp [h1, h2]
    · simp only [Option.bind_some, h1, h2]
      cases h3 <;> rfl

theorem yielded_rel {N : Emb} {ops : Array Oper} {τ τ' : Array Value} (h : CRel N τ τ') (j : Nat) : yielded ops τ j = yielded ops τ' j := by
  apply yielded_rel' (N := N)
  intro t _
  cases ht : τ[t]? with
  | some v =>
    obtain ⟨v', h1, h2⟩ := h.get ht
    exact .inr ⟨v, v', rfl, h1, h2⟩
  | none =>
    rw [Array.getElem?_eq_none_iff] at ht
    exact .inl ⟨rfl, Array.getElem?_eq_none (h.1 ▸ ht)⟩

theorem wanted_rel {N : Emb} {ops : Array Oper} {τ τ' : Array Value} (h : CRel N τ τ') (o : Oper) : Region.wanted o (yielded ops τ') = Region.wanted o (yielded ops τ) := by
  unfold Region.wanted
  cases o.guard with
  | none => rfl
  | some g => simp only [yielded_rel h]

theorem putT_rel {N : Emb} {τ : Array Value} {a : Act} (h : CRel N τ a.tmps) (d : Option Tmp) {v v' : Value} (hv : VRel N v v') : CRel N (putT τ d v) (a.put d v').tmps := by
  cases d with
  | none => exact h
  | some d => exact h.set d hv

theorem put_defers (a : Act) (d : Option Tmp) (v : Value) : (a.put d v).defers = a.defers := by cases d <;> rfl

section
variable {P : Program} {C : Cfg} (hC : C.OK P) {call : FuncId → Array Value → AH → Option (Value × AH)} (hcall : ∀ f args h v h', call f args h = some (v, h') → CallOK P f args h v h')
  (hnext : ∀ f args h v h', call f args h = some (v, h') → h.next ≤ h'.next)
include hC hcall hnext

theorem aops_ok {ops : Array Oper} {Q : Exit → Act → World → Prop} : ∀ (l : List Nat) (τ : Array Value) (h : AH) (τ' : Array Value) (h' : AH), aops P C call ops l τ h = some (τ', h') →
    ∀ (N : Emb) (w : World) (a : Act), CRel N τ a.tmps → HRel P N h w → Fresh N h h' →
    (∀ N' a' w', CRel N' τ' a'.tmps → a'.defers = a.defers → Ext P N h w N' h' w' → Q .normal a' w') → wpOps P ops Q l a w
  | [], τ, h, τ', h', ha, N, w, a, hτ, hr, hf, hq => by
    simp only [aops, Option.some.injEq, Prod.mk.injEq] at ha
    obtain ⟨rfl, rfl⟩ := ha
    exact hq N a w hτ rfl (Ext.refl hr)
  | i :: l, τ, h, τ', h', ha, N, w, a, hτ, hr, hf, hq => by
    unfold aops at ha
    unfold wpOps
    split at ha
    · rename_i ho
      simp only [ho]
      exact aops_ok l _ _ _ _ ha N w a hτ hr hf hq
    · rename_i o ho
      simp only [ho, wanted_rel hτ]
      cases hw : Region.wanted o (yielded ops τ) with
      | false =>
        rw [hw] at ha
        simp only [Bool.false_eq_true, if_false]
        exact aops_ok l _ _ _ _ ha N w _ (putT_rel hτ o.dst (undef_rel N)) hr hf (fun N' a' w' h1 h2 h3 => hq N' a' w' h1 (by rw [h2, put_defers]) h3)
      | true =>
        rw [hw] at ha
        simp only [if_true]
        simp only [cond_true] at ha
        obtain ⟨hok, ha⟩ := cond_some ha
        have hρ : ∀ x ∈ o.op.operands, VRel N (evalT τ x) (a.eval x) := fun x hx => eval_rel hτ (okOps_mem hok hx)
        left
        split at ha
        · rename_i v hv
          obtain ⟨v', h1, h2⟩ := apure_ok hv N w a.eval hρ
          unfold Oper.wp
          rw [h1]
          exact aops_ok l _ _ _ _ ha N w _ (putT_rel hτ o.dst h2) hr hf (fun N' a' w' h3 h4 h5 => hq N' a' w' h3 (by rw [h4, put_defers]) h5)
        · split at ha
          · rename_i v h1 hi
            have hn1 := aimp_next hnext hi
            have hn2 := aops_next hnext _ _ _ _ _ ha
            have hf1 : Fresh N h h1 := fun k x y => hf k x (Nat.lt_of_lt_of_le y hn2)
            refine Oper.wp_mono ?_ (aimp_ok hC hcall hi N w a hρ hr hf1 Q)
            rintro a' w' ⟨N', v', rfl, hv, hE⟩
            have hf2 : Fresh N' h1 h' := fun k x y => by
              cases hk : N' k with
              | none => rfl
              | some e =>
                cases hk0 : N k with
                | some f => rw [hf k (Nat.le_trans hn1 x) y] at hk0; cases hk0
                | none => have := (hE.new k e hk hk0).2.1; omega
            exact aops_ok l _ _ _ _ ha N' w' _ (putT_rel (hτ.mono hE.le) o.dst hv) hE.rel hf2 (fun N2 a2 w2 h3 h4 h5 => hq N2 a2 w2 h3 (by rw [h4, put_defers]) (hE.trans h5 hf1))
          · cases ha
end

theorem aresult_ok {P : Program} {N : Emb} {τ τ' : Array Value} {h : AH} {w : World} {r : ResultVar} {v : Value} (ha : aresult P τ h r = some v) (hτ : CRel N τ τ') (hr : HRel P N h w) :
    ∃ v', (match r with | .tmp t => (pure (τ'.getD t undef) : Sem Value) | .cell a t => do loadVar t (← asAddr (τ'.getD a undef))).run P w = .ok v' w ∧ VRel N v v' := by
  cases r with
  | tmp t =>
    simp only [aresult, Option.some.injEq] at ha
    subst ha
    exact ⟨_, rfl, getD_rel hτ t⟩
  | cell a t =>
    simp only [aresult] at ha
    have hg := getD_rel hτ a
    split at ha
    · rename_i ad had
      rw [had] at hg
      obtain ⟨v', h1, h2⟩ := aload_ok ha hg hr
      obtain ⟨e, he, e2⟩ := hg.addr
      refine ⟨v', ?_, h2⟩
      rw [e2] at h1
      simp only [e2]
      simpa [Instr.loadAt, Instr.sureAddr, asAddr] using h1
    · cases ha

theorem aresults_ok {P : Program} {N : Emb} {τ τ' : Array Value} {h : AH} {w : World} (hτ : CRel N τ τ') (hr : HRel P N h w) : ∀ (rs : List ResultVar) (vs : List Value), aresults P τ h rs = some vs →
    ∃ vs', (rs.mapM (m := Sem) fun | .tmp t => pure (τ'.getD t undef) | .cell a t => do loadVar t (← asAddr (τ'.getD a undef))).run P w = .ok vs' w ∧ CRel N ⟨vs⟩ ⟨vs'⟩
  | [], vs, ha => by
    simp only [aresults, Option.some.injEq] at ha
    subst ha
    exact ⟨[], by simp, rfl, by simp⟩
  | r :: rs, vs, ha => by
    unfold aresults at ha
    split at ha
    · cases ha
    · rename_i v hv
      split at ha
      · cases ha
      · rename_i us hus
        cases ha
        obtain ⟨v', h1, h2⟩ := aresult_ok hv hτ hr
        obtain ⟨us', h3, h4⟩ := aresults_ok hτ hr rs us hus
        refine ⟨v' :: us', ?_, ?_⟩
        · rw [List.mapM_cons]
          simp only [Sem.run_bind, h1, Result.andThen_ok, h3, Sem.run_pure]
        · have := CRel.append (a := [v]) (a' := [v']) (.one h2) h4
          simpa using this

theorem aresultV_ok {P : Program} {N : Emb} {fn : Func} {τ τ' : Array Value} {h : AH} {w : World} {v : Value} (ha : aresultV P τ h fn.results.toList = some v) (hτ : CRel N τ τ') (hr : HRel P N h w) :
    ∃ v', (results fn τ').run P w = .ok v' w ∧ VRel N v v' := by
  unfold aresultV at ha
  have key : ∀ vs, aresults P τ h fn.results.toList = some vs → ∃ vs' : List Value, (results fn τ').run P w = .ok (if h : vs'.toArray.size = 1 then vs'.toArray[0] else .tuple vs'.toArray) w ∧ CRel N ⟨vs⟩ ⟨vs'⟩ := by
    intro vs hvs
    obtain ⟨vs', h1, h2⟩ := aresults_ok hτ hr _ _ hvs
    refine ⟨vs', ?_, h2⟩
    have hm : (fn.results.mapM (m := Sem) fun | .tmp t => pure (τ'.getD t undef) | .cell a t => do loadVar t (← asAddr (τ'.getD a undef))).run P w = .ok vs'.toArray w := by
      rw [Array.mapM_eq_mapM_toList, Sem.run_map, h1]
      rfl
    have hdef : results fn τ' = ((fn.results.mapM (m := Sem) fun | .tmp t => pure (τ'.getD t undef) | .cell a t => do loadVar t (← asAddr (τ'.getD a undef))) >>= fun vs => pure (if h : vs.size = 1 then vs[0] else .tuple vs)) := rfl
    rw [hdef, Sem.run_bind, hm]
    rfl
  split at ha
  · rename_i u hu
    cases ha
    obtain ⟨vs', h1, h2⟩ := key _ hu
    have hl : vs'.length = 1 := by have := h2.1; simpa using this.symm
    match vs', hl with
    | [v'], _ =>
      refine ⟨v', by rw [h1]; rfl, ?_⟩
      exact h2.2 0 v v' rfl rfl
  · rename_i vs hne hvs
    cases ha
    obtain ⟨vs', h1, h2⟩ := key _ hvs
    have hl : vs.length = vs'.length := by simpa using h2.1
    have hn1 : ¬ vs'.toArray.size = 1 := by
      intro q
      have q' : vs.length = 1 := by rw [hl]; simpa using q
      match vs, q' with
      | [u], _ => exact hne u rfl
    refine ⟨.tuple vs'.toArray, by rw [h1, dif_neg hn1], .tuple _ _ h2.1 h2.2⟩
  · cases ha

end Go.Ev

/-
  The abstract evaluator: what comes before what in a region that draws its order (EvO).
-/
namespace Go.Ev

/-- One row of 'Region.before'. -/
def rowOf (acc : Array Nat) (o : Oper) : Nat := o.after.foldl (fun s e => if Region.binds .any e then s ||| 2 ^ e.on ||| acc.getD e.on 0 else s) 0

theorem before_eq (ops : Array Oper) : Region.before ops = ops.toList.foldl (fun acc o => acc.push (rowOf acc o)) #[] := by
  unfold Region.before rowOf
  rw [← Array.foldl_toList]

theorem fold_size : ∀ (l : List Oper) (acc : Array Nat), (l.foldl (fun acc o => acc.push (rowOf acc o)) acc).size = acc.size + l.length
  | [], acc => by simp
  | o :: l, acc => by simp [fold_size l]; omega

theorem fold_old : ∀ (l : List Oper) (acc : Array Nat) (i : Nat), i < acc.size → (l.foldl (fun acc o => acc.push (rowOf acc o)) acc)[i]? = acc[i]?
  | [], acc, i, _ => rfl
  | o :: l, acc, i, h => by
    simp only [List.foldl_cons]
    rw [fold_old l _ i (by simp; omega), Array.getElem?_push_lt h, Array.getElem?_eq_getElem h]

theorem fold_at : ∀ (l : List Oper) (acc : Array Nat) (j : Nat) (o : Oper), l[j]? = some o →
    ∃ pre : Array Nat, pre.size = acc.size + j ∧ (∀ i, i < pre.size → (l.foldl (fun acc o => acc.push (rowOf acc o)) acc)[i]? = pre[i]?) ∧
      (l.foldl (fun acc o => acc.push (rowOf acc o)) acc)[acc.size + j]? = some (rowOf pre o)
  | [], acc, j, o, h => by simp at h
  | p :: l, acc, 0, o, h => by
    simp at h
    subst h
    refine ⟨acc, by simp, fun i hi => fold_old (p :: l) acc i hi, ?_⟩
    simp only [List.foldl_cons, Nat.add_zero]
    rw [fold_old l _ acc.size (by simp)]
    simp
  | p :: l, acc, j + 1, o, h => by
    obtain ⟨pre, h1, h2, h3⟩ := fold_at l (acc.push (rowOf acc p)) j o (by simpa using h)
    refine ⟨pre, by rw [h1]; simp; omega, fun i hi => by simp only [List.foldl_cons]; exact h2 i hi, ?_⟩
    simp only [List.foldl_cons]
    have e : acc.size + (j + 1) = (acc.push (rowOf acc p)).size + j := by simp; omega
    rw [e]
    exact h3

theorem row_bit (acc : Array Nat) (i : Nat) : ∀ (l : List Edge) (s : Nat), (l.foldl (fun s e => if Region.binds .any e then s ||| 2 ^ e.on ||| acc.getD e.on 0 else s) s).testBit i = true →
    s.testBit i = true ∨ ∃ e ∈ l, Region.binds .any e = true ∧ (e.on = i ∨ (acc.getD e.on 0).testBit i = true)
  | [], s, h => .inl h
  | e :: l, s, h => by
    simp only [List.foldl_cons] at h
    rcases row_bit acc i l _ h with h1 | ⟨f, hf, h2⟩
    · split at h1
      · rename_i hb
        rw [Nat.testBit_or, Nat.testBit_or] at h1
        simp only [Bool.or_eq_true] at h1
        rcases h1 with (h1 | h1) | h1
        · exact .inl h1
        · rw [Nat.testBit_two_pow] at h1
          simp at h1
          exact .inr ⟨e, by simp, hb, .inl h1⟩
        · exact .inr ⟨e, by simp, hb, .inr h1⟩
      · exact .inl h1
    · exact .inr ⟨f, by simp [hf], h2⟩

/-- Why one operation comes before another. -/
theorem before_bit {ops : Array Oper} {i j : Nat} (h : bitOf (Region.before ops) i j = true) :
    ∃ o, ops[j]? = some o ∧ ∃ e ∈ o.after, Region.binds .any e = true ∧ (e.on = i ∨ (e.on < j ∧ bitOf (Region.before ops) i e.on = true)) := by
  unfold bitOf at h
  rw [before_eq] at h
  have hj : j < ops.toList.length := by
    rcases Nat.lt_or_ge j ops.toList.length with x | x
    · exact x
    · rw [Array.getD_eq_getD_getElem?, Array.getElem?_eq_none (by rw [fold_size]; simp at x ⊢; omega)] at h
      simp at h
  obtain ⟨pre, h1, h2, h3⟩ := fold_at ops.toList #[] j ops.toList[j] (List.getElem?_eq_getElem hj)
  simp only [List.size_toArray, List.length_nil, Nat.zero_add] at h1 h3
  rw [Array.getD_eq_getD_getElem?, h3] at h
  simp only [Option.getD_some] at h
  refine ⟨ops.toList[j], by simp, ?_⟩
  unfold rowOf at h
  rw [← Array.foldl_toList] at h
  rcases row_bit pre i _ 0 h with h4 | ⟨e, he, hb, h5⟩
  · simp at h4
  · refine ⟨e, Array.mem_toList_iff.1 he, hb, ?_⟩
    rcases h5 with h5 | h5
    · exact .inl h5
    · right
      have hlt : e.on < j := by
        rcases Nat.lt_or_ge e.on j with x | x
        · exact x
        · rw [Array.getD_eq_getD_getElem?, Array.getElem?_eq_none (by omega)] at h5
          simp at h5
      refine ⟨hlt, ?_⟩
      unfold bitOf
      rw [before_eq, Array.getD_eq_getD_getElem?, h2 e.on (by omega), ← Array.getD_eq_getD_getElem?]
      exact h5

/-- What is listed brings along what it comes behind. -/
def Closed (ops : Array Oper) (L : Nat → Bool) : Prop := ∀ k o, ops[k]? = some o → L k = true → ∀ e ∈ o.after, Region.binds .any e = true → L e.on = true

theorem closed_bit {ops : Array Oper} {L : Nat → Bool} (hL : Closed ops L) : ∀ (k i : Nat), L k = true → bitOf (Region.before ops) i k = true → L i = true := by
  intro k
  induction k using Nat.strongRecOn with
  | _ k ih =>
    intro i hk hb
    obtain ⟨o, ho, e, he, hbi, h⟩ := before_bit hb
    have h1 := hL k o ho hk e he hbi
    rcases h with h | ⟨h2, h3⟩
    · rw [← h]; exact h1
    · exact ih e.on h2 i h1 h3

theorem ready_bit {ops : Array Oper} {L : Nat → Bool} (hL : Closed ops L) {j i : Nat} {o : Oper} (ho : ops[j]? = some o) (hr : ∀ e ∈ o.after, Region.binds .any e = true → L e.on = true) (hb : bitOf (Region.before ops) i j = true) : L i = true := by
  obtain ⟨o', ho', e, he, hbi, h⟩ := before_bit hb
  rw [ho] at ho'
  cases ho'
  have h1 := hr e he hbi
  rcases h with h | ⟨_, h3⟩
  · rw [← h]; exact h1
  · exact closed_bit hL e.on i h1 h3

end Go.Ev
