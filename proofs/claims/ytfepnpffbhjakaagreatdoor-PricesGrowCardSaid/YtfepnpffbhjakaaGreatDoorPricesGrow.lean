/-
  'PricesGrow' returns true for every list of integers, and leaves what was there as it was.
-/
import Derived.Test.YtfepnpffbhjakaaGreatDoorPgH
import Derived.Below
namespace Go.Proofs.YtfepnpffbhjakaaGreatDoor
open Go.Ev Go.RowKit PriceLaw

/-- What a slice of integers that came in reads as. -/
def IsRow (k : IntKind) (w : World) (a : Option Addr) (len cap : Nat) (zs : List Int) : Prop :=
  (a = none ∧ len = 0 ∧ cap = 0 ∧ zs = []) ∨
  ∃ x, a = some x ∧ len ≤ cap ∧ cap ≤ maxLen ∧ zs.length = cap ∧ (∀ i, i < zs.length → w.cell? (x.add i) = some (.int k (zs.getD i 0))) ∧ ∀ n ∈ zs, (Lit.int k n).wf = true

theorem IsRow.law {f : FuncId} (hF : ∀ zs : List Int, FnOK 0 Tryz.prog f ⟨[fz (intsV zs)]⟩ h0 (fun v _ => v = .bool true)) (a : Option Addr) (len cap : Nat) (zs : List Int) (w : World) (h : IsRow .i64 w a len cap zs) :
    Calls Tryz.prog f #[.slice a len cap] w fun e w' => e = .returned (.bool true) ∧ Below w.heap.size w w' := by
  refine FnOK.law (zs := zs) (hF _) ?_
  rcases h with h | ⟨x, h1, h2, _, h3, h4, _⟩
  · exact .inl h
  · exact .inr ⟨x, h1, h2, h3, h4⟩

/-- The functions that the specifications name. -/
structure LwF where
  P : Array Value → Value
  vs : Array Value → List Value
  en : Array Value → Int
  k : List Value → Int → ByteArray
  n : List Value → Int → Int
  e : List Value → Int → Int
noncomputable def spRCf (F : LwF) (f : FuncId) (args : Array Value) (h : AH) : Option (Bool × Value × AH) :=
  cond (Nat.beq f 4) (match args with
    | ⟨[.pointer (some ⟨b, 0, none⟩)]⟩ => match h.get b with
      | some (.cells ⟨[.func (.yield 0) xs ⟨[]⟩, .int .i64 at_]⟩ t (0, 0)) =>
        some (Nat.beq t 25 && decide (at_ = 0) && allInts xs, .agg ⟨[F.P xs, fz ⟨F.vs xs⟩]⟩, h.set b (.cells ⟨[fz xs, .int .i64 (F.en xs)]⟩ 25 (0, 0)))
      | _ => none
    | _ => none) none
noncomputable def spChf (F : LwF) (f : FuncId) (args : Array Value) (h : AH) : Option (Bool × Value × AH) :=
  cond (Nat.beq f 6) (match args with
    | ⟨[.agg ⟨[P, .func (.yield 0) ⟨vs⟩ ⟨[]⟩]⟩, .string k, .int .i64 calls]⟩ => some (okP P && okV vs && isShop k && decide (0 ≤ calls) && decide (calls ≤ 1000),
      .tuple ⟨[.string (F.k vs calls), .int .i64 (F.n vs calls), .int .i64 (F.e vs calls)]⟩, h)
    | _ => none) none
noncomputable def SL1 : SC := ⟨idn, spOr spPc (spNext []), true, true⟩
noncomputable def SL2 (F : LwF) : SC := ⟨idn, spOr spReady (spOr (spRCf F) (spOr (spChf F) (spNext []))), true, true⟩
def lwV (calls : Int) (k : ByteArray) (n e : Int) (vs : List Value) (len i : Int) : List Value := [.pointer (some ⟨0, 0, none⟩), .pointer (some ⟨1, 0, none⟩), .int .i64 calls, .string k, .int .i64 n, .int .i64 e, fz ⟨vs⟩, .int .i64 len, .int .i64 i]
def lwH (xs : Array Value) (d : Int) (P : Value) (vs : List Value) : AH := ⟨2, 2, [(0, strm xs d), (1, .cells ⟨[P, fz ⟨vs⟩]⟩ 29 (0, 0))]⟩
theorem SL1_ok : SL1.cfg.OK Tryz.prog := (spPc_ok.or (spNext_ok [])).cfg
noncomputable def LW0 : LwF where
  P := fun xs => prodV (rsW xs 0)
  vs := fun xs => (catL xs).map plV
  en := catE
  k := fun vs calls => (chB (cheapF (fitS calls) calls (vs.map unPl) none)).1
  n := fun vs calls => (chB (cheapF (fitS calls) calls (vs.map unPl) none)).2
  e := fun vs calls => chE (cheapF (fitS calls) calls (vs.map unPl) none)
theorem LW0_rc : spRCf LW0 = spRC := rfl
theorem LW0_ch : spChf LW0 = spCh := rfl
theorem SL2_ok : (SL2 LW0).cfg.OK Tryz.prog := by
  have := (spReady_ok.or (spRC_ok.or (spCh_ok.or (spNext_ok [])))).cfg (e := true) (g := true)
  exact this
theorem lwr (xs : Array Value) (d : Int) (P : Value) (vs : List Value) (calls n e len i : Int) (k : ByteArray) (B : List Value → AH → Prop) (Q : AExit → List Value → AH → Prop) : (once 0 Tryz.prog SL1 [] noHooks 600 121 [3, 4, 5, 6, 7, 8, 31, 32, 33] [1] [6, 8] [] (oneLoop (codeOf Tryz.f3) 5) (lwV calls k n e vs len i) (lwH xs d P vs) B Q) = bif decide (i < len) then bif decide (0 ≤ i) && decide (i < ((Array.mk vs).size : Int)) && true then (Array.mk vs).toList.getD i.toNat (Value.tuple { toList := [] }) = Value.agg { toList := [Value.string (toStr (((Array.mk vs).toList.getD i.toNat undef).cells.toList.getD 0 (Value.tuple { toList := [] }))), Value.string (toStr (((Array.mk vs).toList.getD i.toNat undef).cells.toList.getD 1 (Value.tuple { toList := [] }))), Value.int IntKind.i64 (toInt (((Array.mk vs).toList.getD i.toNat undef).cells.toList.getD 2 (Value.tuple { toList := [] }))), Value.int IntKind.i64 (toInt (((Array.mk vs).toList.getD i.toNat undef).cells.toList.getD 3 (Value.tuple { toList := [] }))), Value.func (Fn.yield 0) (toArr (((Array.mk vs).toList.getD i.toNat undef).cells.toList.getD 4 undef)) { toList := [] }, Value.int IntKind.i64 (toInt (((Array.mk vs).toList.getD i.toNat undef).cells.toList.getD 5 (Value.tuple { toList := [] }))), Value.int IntKind.i64 (toInt (((Array.mk vs).toList.getD i.toNat undef).cells.toList.getD 6 (Value.tuple { toList := [] }))), Value.bool (Ev.toBool (((Array.mk vs).toList.getD i.toNat undef).cells.toList.getD 7 undef))] } ∧ bif okP P && okV vs && hasK vs (toStr (((Array.mk vs).toList.getD i.toNat undef).cells.toList.getD 0 (Value.tuple { toList := [] }))) && decide (0 ≤ calls) && decide (calls ≤ 1000) then bif decide (0 ≤ d) && decide (d ≤ 1000000) && true && true && true && allInts xs then bif okP P && okV vs && hasK vs (toStr (((Array.mk vs).toList.getD i.toNat undef).cells.toList.getD 0 (Value.tuple { toList := [] }))) && decide (0 ≤ IntKind.i64.wrap (calls + IntKind.i64.wrap (0 + nextR xs d 201))) && decide (IntKind.i64.wrap (calls + IntKind.i64.wrap (0 + nextR xs d 201)) ≤ 1000) then bif decide (pcV vs (toStr (((Array.mk vs).toList.getD i.toNat undef).cells.toList.getD 0 (Value.tuple { toList := [] }))) calls > pcV vs (toStr (((Array.mk vs).toList.getD i.toNat undef).cells.toList.getD 0 (Value.tuple { toList := [] }))) (IntKind.i64.wrap (calls + IntKind.i64.wrap (0 + nextR xs d 201)))) then Q AExit.ret [Value.string k, Value.int IntKind.i64 e] { next := 0, low := 0, blocks := [] } else bif (toStr (((Array.mk vs).toList.getD i.toNat undef).cells.toList.getD 1 (Value.tuple { toList := [] }))).toList == (ByteArray.mk #[115, 104, 111, 112]).toList then bif decide (toInt (((Array.mk vs).toList.getD i.toNat undef).cells.toList.getD 5 (Value.tuple { toList := [] })) < 0) then bif e != 0 then Q AExit.ret [Value.string k, Value.int IntKind.i64 e] { next := 0, low := 0, blocks := [] } else bif decide (n > IntKind.i64.wrap (toInt (((Array.mk vs).toList.getD i.toNat undef).cells.toList.getD 2 (Value.tuple { toList := [] })) + pcV vs (toStr (((Array.mk vs).toList.getD i.toNat undef).cells.toList.getD 0 (Value.tuple { toList := [] }))) calls)) then Q AExit.ret [Value.string k, Value.int IntKind.i64 e] { next := 0, low := 0, blocks := [] } else bif (toStr (((Array.mk vs).toList.getD i.toNat undef).cells.toList.getD 0 (Value.tuple { toList := [] }))).toList == k.toList then bif n != IntKind.i64.wrap (toInt (((Array.mk vs).toList.getD i.toNat undef).cells.toList.getD 2 (Value.tuple { toList := [] })) + pcV vs (toStr (((Array.mk vs).toList.getD i.toNat undef).cells.toList.getD 0 (Value.tuple { toList := [] }))) calls) then Q AExit.ret [Value.string k, Value.int IntKind.i64 e] { next := 0, low := 0, blocks := [] } else NoNames (Obj.cells { toList := [P, Value.func (Fn.yield 0) { toList := vs } { toList := [] }] } 29 (0, 0)) ∧ B [Value.pointer (some { block := 0, off := 0 }), Value.pointer (some { block := 1, off := 0 }), Value.int IntKind.i64 calls, Value.string k, Value.int IntKind.i64 n, Value.int IntKind.i64 e, Value.func (Fn.yield 0) { toList := vs } { toList := [] }, Value.int IntKind.i64 len, Value.int IntKind.i64 (IntKind.i64.wrap (i + 1))] { next := 2, low := 2, blocks := [(0, Obj.cells { toList := [Value.func (Fn.yield 0) xs { toList := [] }, Value.int IntKind.i64 (d + 1)] } 25 (0, 0)), (1, Obj.cells { toList := [P, Value.func (Fn.yield 0) { toList := vs } { toList := [] }] } 29 (0, 0))] } else NoNames (Obj.cells { toList := [P, Value.func (Fn.yield 0) { toList := vs } { toList := [] }] } 29 (0, 0)) ∧ B [Value.pointer (some { block := 0, off := 0 }), Value.pointer (some { block := 1, off := 0 }), Value.int IntKind.i64 calls, Value.string k, Value.int IntKind.i64 n, Value.int IntKind.i64 e, Value.func (Fn.yield 0) { toList := vs } { toList := [] }, Value.int IntKind.i64 len, Value.int IntKind.i64 (IntKind.i64.wrap (i + 1))] { next := 2, low := 2, blocks := [(0, Obj.cells { toList := [Value.func (Fn.yield 0) xs { toList := [] }, Value.int IntKind.i64 (d + 1)] } 25 (0, 0)), (1, Obj.cells { toList := [P, Value.func (Fn.yield 0) { toList := vs } { toList := [] }] } 29 (0, 0))] } else bif decide (toInt (((Array.mk vs).toList.getD i.toNat undef).cells.toList.getD 5 (Value.tuple { toList := [] })) ≥ calls) then bif e != 0 then Q AExit.ret [Value.string k, Value.int IntKind.i64 e] { next := 0, low := 0, blocks := [] } else bif decide (n > IntKind.i64.wrap (toInt (((Array.mk vs).toList.getD i.toNat undef).cells.toList.getD 2 (Value.tuple { toList := [] })) + pcV vs (toStr (((Array.mk vs).toList.getD i.toNat undef).cells.toList.getD 0 (Value.tuple { toList := [] }))) calls)) then Q AExit.ret [Value.string k, Value.int IntKind.i64 e] { next := 0, low := 0, blocks := [] } else bif (toStr (((Array.mk vs).toList.getD i.toNat undef).cells.toList.getD 0 (Value.tuple { toList := [] }))).toList == k.toList then bif !decide (toInt (((Array.mk vs).toList.getD i.toNat undef).cells.toList.getD 5 (Value.tuple { toList := [] })) ≥ calls) then Q AExit.ret [Value.string k, Value.int IntKind.i64 e] { next := 0, low := 0, blocks := [] } else bif n != IntKind.i64.wrap (toInt (((Array.mk vs).toList.getD i.toNat undef).cells.toList.getD 2 (Value.tuple { toList := [] })) + pcV vs (toStr (((Array.mk vs).toList.getD i.toNat undef).cells.toList.getD 0 (Value.tuple { toList := [] }))) calls) then Q AExit.ret [Value.string k, Value.int IntKind.i64 e] { next := 0, low := 0, blocks := [] } else NoNames (Obj.cells { toList := [P, Value.func (Fn.yield 0) { toList := vs } { toList := [] }] } 29 (0, 0)) ∧ B [Value.pointer (some { block := 0, off := 0 }), Value.pointer (some { block := 1, off := 0 }), Value.int IntKind.i64 calls, Value.string k, Value.int IntKind.i64 n, Value.int IntKind.i64 e, Value.func (Fn.yield 0) { toList := vs } { toList := [] }, Value.int IntKind.i64 len, Value.int IntKind.i64 (IntKind.i64.wrap (i + 1))] { next := 2, low := 2, blocks := [(0, Obj.cells { toList := [Value.func (Fn.yield 0) xs { toList := [] }, Value.int IntKind.i64 (d + 1)] } 25 (0, 0)), (1, Obj.cells { toList := [P, Value.func (Fn.yield 0) { toList := vs } { toList := [] }] } 29 (0, 0))] } else NoNames (Obj.cells { toList := [P, Value.func (Fn.yield 0) { toList := vs } { toList := [] }] } 29 (0, 0)) ∧ B [Value.pointer (some { block := 0, off := 0 }), Value.pointer (some { block := 1, off := 0 }), Value.int IntKind.i64 calls, Value.string k, Value.int IntKind.i64 n, Value.int IntKind.i64 e, Value.func (Fn.yield 0) { toList := vs } { toList := [] }, Value.int IntKind.i64 len, Value.int IntKind.i64 (IntKind.i64.wrap (i + 1))] { next := 2, low := 2, blocks := [(0, Obj.cells { toList := [Value.func (Fn.yield 0) xs { toList := [] }, Value.int IntKind.i64 (d + 1)] } 25 (0, 0)), (1, Obj.cells { toList := [P, Value.func (Fn.yield 0) { toList := vs } { toList := [] }] } 29 (0, 0))] } else bif (toStr (((Array.mk vs).toList.getD i.toNat undef).cells.toList.getD 0 (Value.tuple { toList := [] }))).toList == k.toList then bif !decide (toInt (((Array.mk vs).toList.getD i.toNat undef).cells.toList.getD 5 (Value.tuple { toList := [] })) ≥ calls) then Q AExit.ret [Value.string k, Value.int IntKind.i64 e] { next := 0, low := 0, blocks := [] } else bif n != IntKind.i64.wrap (toInt (((Array.mk vs).toList.getD i.toNat undef).cells.toList.getD 2 (Value.tuple { toList := [] })) + pcV vs (toStr (((Array.mk vs).toList.getD i.toNat undef).cells.toList.getD 0 (Value.tuple { toList := [] }))) calls) then Q AExit.ret [Value.string k, Value.int IntKind.i64 e] { next := 0, low := 0, blocks := [] } else NoNames (Obj.cells { toList := [P, Value.func (Fn.yield 0) { toList := vs } { toList := [] }] } 29 (0, 0)) ∧ B [Value.pointer (some { block := 0, off := 0 }), Value.pointer (some { block := 1, off := 0 }), Value.int IntKind.i64 calls, Value.string k, Value.int IntKind.i64 n, Value.int IntKind.i64 e, Value.func (Fn.yield 0) { toList := vs } { toList := [] }, Value.int IntKind.i64 len, Value.int IntKind.i64 (IntKind.i64.wrap (i + 1))] { next := 2, low := 2, blocks := [(0, Obj.cells { toList := [Value.func (Fn.yield 0) xs { toList := [] }, Value.int IntKind.i64 (d + 1)] } 25 (0, 0)), (1, Obj.cells { toList := [P, Value.func (Fn.yield 0) { toList := vs } { toList := [] }] } 29 (0, 0))] } else NoNames (Obj.cells { toList := [P, Value.func (Fn.yield 0) { toList := vs } { toList := [] }] } 29 (0, 0)) ∧ B [Value.pointer (some { block := 0, off := 0 }), Value.pointer (some { block := 1, off := 0 }), Value.int IntKind.i64 calls, Value.string k, Value.int IntKind.i64 n, Value.int IntKind.i64 e, Value.func (Fn.yield 0) { toList := vs } { toList := [] }, Value.int IntKind.i64 len, Value.int IntKind.i64 (IntKind.i64.wrap (i + 1))] { next := 2, low := 2, blocks := [(0, Obj.cells { toList := [Value.func (Fn.yield 0) xs { toList := [] }, Value.int IntKind.i64 (d + 1)] } 25 (0, 0)), (1, Obj.cells { toList := [P, Value.func (Fn.yield 0) { toList := vs } { toList := [] }] } 29 (0, 0))] } else bif (toStr (((Array.mk vs).toList.getD i.toNat undef).cells.toList.getD 0 (Value.tuple { toList := [] }))).toList == k.toList then Q AExit.ret [Value.string k, Value.int IntKind.i64 e] { next := 0, low := 0, blocks := [] } else NoNames (Obj.cells { toList := [P, Value.func (Fn.yield 0) { toList := vs } { toList := [] }] } 29 (0, 0)) ∧ B [Value.pointer (some { block := 0, off := 0 }), Value.pointer (some { block := 1, off := 0 }), Value.int IntKind.i64 calls, Value.string k, Value.int IntKind.i64 n, Value.int IntKind.i64 e, Value.func (Fn.yield 0) { toList := vs } { toList := [] }, Value.int IntKind.i64 len, Value.int IntKind.i64 (IntKind.i64.wrap (i + 1))] { next := 2, low := 2, blocks := [(0, Obj.cells { toList := [Value.func (Fn.yield 0) xs { toList := [] }, Value.int IntKind.i64 (d + 1)] } 25 (0, 0)), (1, Obj.cells { toList := [P, Value.func (Fn.yield 0) { toList := vs } { toList := [] }] } 29 (0, 0))] } else False else False else False else False else Q (AExit.exit 0) [Value.string k, Value.int IntKind.i64 e] { next := 0, low := 0, blocks := [] } := by kernel_rfl
theorem lwf (F : LwF) (xs : Array Value) (k : ByteArray) (e : Int) (C : List Value → AH → Prop) (Q : Value → Prop) : (tfn Tryz.prog (SL2 F) [] (hook1 5 (hookLS 0 121 [3, 4, 5, 6, 7, 8, 31, 32, 33] [1] [6, 8] (fun vals h K => C vals h ∧ K (.exit 0) [.string k, .int .i64 e] h0))) 600 [] Tryz.f3 [fz xs] h0 (fun v _ => Q v)) = bif allInts xs then bif decide (0 ≤ F.en xs) && decide (F.en xs ≤ 1000000) && true && true && true && allInts xs then bif [F.P xs, Value.func (Fn.yield 0) { toList := F.vs xs } { toList := [] }].all oneCell then bif okP (F.P xs) && okV (F.vs xs) && true && decide (0 ≤ IntKind.i64.wrap (0 + nextR xs (F.en xs) 501)) && decide (IntKind.i64.wrap (0 + nextR xs (F.en xs) 501) ≤ 1000) then NoNames (Obj.cells { toList := [F.P xs, Value.func (Fn.yield 0) { toList := F.vs xs } { toList := [] }] } 29 (0, 0)) ∧ C [Value.pointer (some { block := 0, off := 0 }), Value.pointer (some { block := 1, off := 0 }), Value.int IntKind.i64 (IntKind.i64.wrap (0 + nextR xs (F.en xs) 501)), Value.string (F.k (F.vs xs) (IntKind.i64.wrap (0 + nextR xs (F.en xs) 501))), Value.int IntKind.i64 (F.n (F.vs xs) (IntKind.i64.wrap (0 + nextR xs (F.en xs) 501))), Value.int IntKind.i64 (F.e (F.vs xs) (IntKind.i64.wrap (0 + nextR xs (F.en xs) 501))), Value.func (Fn.yield 0) { toList := F.vs xs } { toList := [] }, Value.int IntKind.i64 ((Array.mk (F.vs xs)).size : Int), Value.int IntKind.i64 0] { next := 2, low := 2, blocks := [(0, Obj.cells { toList := [Value.func (Fn.yield 0) xs { toList := [] }, Value.int IntKind.i64 (F.en xs + 1)] } 25 (0, 0)), (1, Obj.cells { toList := [F.P xs, Value.func (Fn.yield 0) { toList := F.vs xs } { toList := [] }] } 29 (0, 0))] } ∧ bif (e == 0) == !k.toList == (ByteArray.mk #[]).toList then Q (Value.bool true) else Q (Value.bool false) else False else False else False else False := by kernel_rfl

noncomputable def lwT (xs : Array Value) (d : Int) (P : Value) (vs : List Value) (calls n e : Int) (k : ByteArray) (p : Pl) (X Y : Prop) : Prop :=
  bif okP P && okV vs && hasK vs p.key && decide (0 ≤ calls) && decide (calls ≤ 1000) then
  bif decide (0 ≤ d) && decide (d ≤ 1000000) && true && true && true && allInts xs then
  bif okP P && okV vs && hasK vs p.key && decide (0 ≤ IntKind.i64.wrap (calls + IntKind.i64.wrap (0 + nextR xs d 201))) && decide (IntKind.i64.wrap (calls + IntKind.i64.wrap (0 + nextR xs d 201)) ≤ 1000) then
  bif decide (pcV vs p.key calls > pcV vs p.key (IntKind.i64.wrap (calls + IntKind.i64.wrap (0 + nextR xs d 201)))) then Y else
  bif p.prod.toList == (ByteArray.mk #[115, 104, 111, 112]).toList then
    bif decide (p.limit < 0) then
      bif e != 0 then Y else bif decide (n > IntKind.i64.wrap (p.base + pcV vs p.key calls)) then Y else bif p.key.toList == k.toList then bif n != IntKind.i64.wrap (p.base + pcV vs p.key calls) then Y else X else X
    else bif decide (p.limit ≥ calls) then
      bif e != 0 then Y else bif decide (n > IntKind.i64.wrap (p.base + pcV vs p.key calls)) then Y else bif p.key.toList == k.toList then bif !decide (p.limit ≥ calls) then Y else bif n != IntKind.i64.wrap (p.base + pcV vs p.key calls) then Y else X else X
    else bif p.key.toList == k.toList then bif !decide (p.limit ≥ calls) then Y else bif n != IntKind.i64.wrap (p.base + pcV vs p.key calls) then Y else X else X
  else bif p.key.toList == k.toList then Y else X
  else False else False else False
theorem lwp (xs : Array Value) (d : Int) (P : Value) (vs : List Value) (calls n e len i : Int) (k : ByteArray) (p : Pl) (hp : (Array.mk vs).toList.getD i.toNat undef = plV p) (B : List Value → AH → Prop) (Q : AExit → List Value → AH → Prop) :
    once 0 Tryz.prog SL1 [] noHooks 600 121 [3, 4, 5, 6, 7, 8, 31, 32, 33] [1] [6, 8] [] (oneLoop (codeOf Tryz.f3) 5) (lwV calls k n e vs len i) (lwH xs d P vs) B Q =
      bif decide (i < len) then bif decide (0 ≤ i) && decide (i < ((Array.mk vs).size : Int)) && true then
        (Array.mk vs).toList.getD i.toNat (Value.tuple { toList := [] }) = plV p ∧ lwT xs d P vs calls n e k p (NoNames (.cells ⟨[P, fz ⟨vs⟩]⟩ 29 (0, 0)) ∧ B (lwV calls k n e vs len (IntKind.i64.wrap (i + 1))) (lwH xs (d + 1) P vs)) (Q .ret [.string k, .int .i64 e] h0)
      else False else Q (.exit 0) [.string k, .int .i64 e] h0 := by
  rw [lwr, hp]
  kernel_rfl
theorem lw_ok {zs : List Int} {d : Int} (h0 : 0 ≤ d) (h1 : d ≤ 100000) {P : Value} (hP : okP P = true) {L : List Pl} (hL : Lok L) {calls : Int} (c0 : 0 ≤ calls) (c1 : calls ≤ 500) {p : Pl} (hp : p ∈ L) {X Y : Prop} (hX : X) :
    lwT (intsV zs) d P (L.map plV) calls (chB (cheapF (fitS calls) calls L none)).2 (chE (cheapF (fitS calls) calls L none)) (chB (cheapF (fitS calls) calls L none)).1 p X Y := by
  have o := hL.2 p hp
  have hV : okV (L.map plV) = true := okV_iff.2 ⟨L, hL, rfl⟩
  have hb := (nextR_spec zs 201 d h0 (by omega) (by omega) (by omega)).1
  have w1 : IntKind.i64.wrap (0 + nextR (intsV zs) d 201) = nextR (intsV zs) d 201 := by rw [Int.zero_add]; exact wrap_id _ (by omega) (by omega)
  have w2 : IntKind.i64.wrap (calls + nextR (intsV zs) d 201) = calls + nextR (intsV zs) d 201 := wrap_id _ (by omega) (by omega)
  have hcost : IntKind.i64.wrap (p.base + pcV (L.map plV) p.key calls) = p.cost calls := by
    rw [pcV_at hL hp]
    have := cost_in o (calls := calls) (by omega)
    exact wrap_id (p.cost calls) (by omega) (by omega)
  unfold lwT
  rw [w1, w2, hcost]
  refine need_mk (by rw [hP, hV, hasK_at hp]; simp; omega) (s1 h0 (by omega) (need_mk (by rw [hP, hV, hasK_at hp]; simp; omega) (pick_f ?_ ?_)))
  · rw [pcV_at hL hp, pcV_at hL hp]
    have := price_mono (ts := p.tiers) o.tiers.1 (free := p.free) (a := calls) (b := calls + nextR (intsV zs) d 201) (by omega)
    exact decide_eq_false (by omega)
  · have law := cheap_law (fits := fitS calls) (calls := calls) (key_pw hL) hp
    have hm := cheap_mem calls (L := L) L none (fun p hp => hp) (fun q n e => by cases e)
    have good : fitS calls p = true → (bif chE (cheapF (fitS calls) calls L none) != 0 then Y else bif decide ((chB (cheapF (fitS calls) calls L none)).2 > p.cost calls) then Y else
        bif p.key.toList == (chB (cheapF (fitS calls) calls L none)).1.toList then bif (chB (cheapF (fitS calls) calls L none)).2 != p.cost calls then Y else X else X) ∧
        (bif chE (cheapF (fitS calls) calls L none) != 0 then Y else bif decide ((chB (cheapF (fitS calls) calls L none)).2 > p.cost calls) then Y else
        bif p.key.toList == (chB (cheapF (fitS calls) calls L none)).1.toList then bif !true then Y else bif (chB (cheapF (fitS calls) calls L none)).2 != p.cost calls then Y else X else X) := by
      intro hf
      match hc : cheapF (fitS calls) calls L none, law, hm with
      | none, law, _ => rw [hf] at law; cases law
      | some (q, n), law, hm =>
        obtain ⟨l1, l2⟩ := law
        have l1 := l1 hf
        have hle : decide (n > p.cost calls) = false := decide_eq_false (by omega)
        constructor
        · refine pick_f rfl (pick_f hle ?_)
          cases hk : (p.key.toList == q.key.toList) with
          | false => exact pick_f hk hX
          | true =>
            refine pick_t hk (pick_f ?_ hX)
            have := (l2 (key_eq hL hp (hm q n rfl) hk)).2
            show (n != p.cost calls) = false
            rw [this]; simp
        · refine pick_f rfl (pick_f hle ?_)
          cases hk : (p.key.toList == q.key.toList) with
          | false => exact pick_f hk hX
          | true =>
            refine pick_t hk (pick_f rfl (pick_f ?_ hX))
            have := (l2 (key_eq hL hp (hm q n rfl) hk)).2
            show (n != p.cost calls) = false
            rw [this]; simp
    have bad : fitS calls p = false → (p.key.toList == (chB (cheapF (fitS calls) calls L none)).1.toList) = false := by
      intro hf
      match hc : cheapF (fitS calls) calls L none, law, hm with
      | none, law, _ => exact nek_of hL hp
      | some (q, n), law, hm =>
        cases hk : (p.key.toList == q.key.toList) with
        | false => exact hk
        | true =>
          have := (law.2 (key_eq hL hp (hm q n rfl) hk)).1
          rw [hf] at this; cases this
    rw [prod_test o]
    cases hsh : isShop p.prod with
    | false => exact pick_f rfl (pick_f (bad (by unfold fitS; rw [hsh]; rfl)) hX)
    | true =>
      refine pick_t rfl ?_
      by_cases hl : p.limit < 0
      · refine pick_t (decide_eq_true hl) ?_
        exact (good (by unfold fitS; rw [hsh, decide_eq_true hl]; rfl)).1
      · refine pick_f (decide_eq_false hl) ?_
        by_cases hl2 : p.limit ≥ calls
        · rw [decide_eq_true hl2]
          refine pick_t rfl ?_
          exact (good (by unfold fitS; rw [hsh, decide_eq_true (show calls ≤ p.limit by omega), Bool.or_true]; rfl)).2
        · rw [decide_eq_false hl2]
          refine pick_f rfl (pick_f (bad ?_) hX)
          unfold fitS
          rw [hsh, decide_eq_false hl, decide_eq_false (by omega)]; rfl
theorem lw_loop {zs : List Int} {P : Value} (hP : okP P = true) {L : List Pl} (hL : Lok L) {calls : Int} (c0 : 0 ≤ calls) (c1 : calls ≤ 500) (hl : L.length ≤ 4) (K : AExit → List Value → AH → Prop)
    (hK : K (.exit 0) [.string (chB (cheapF (fitS calls) calls L none)).1, .int .i64 (chE (cheapF (fitS calls) calls L none))] h0) :
    ∀ (r i : Nat) (d : Int), i + r = L.length → 0 ≤ d → d ≤ 10000 + i →
      iter 0 Tryz.prog SL1 [] noHooks 600 121 [3, 4, 5, 6, 7, 8, 31, 32, 33] [1] [6, 8] [] (oneLoop (codeOf Tryz.f3) 5) (r + 1)
        (lwV calls (chB (cheapF (fitS calls) calls L none)).1 (chB (cheapF (fitS calls) calls L none)).2 (chE (cheapF (fitS calls) calls L none)) (L.map plV) (L.length : Int) (i : Int)) (lwH (intsV zs) d P (L.map plV)) K := by
  intro r
  induction r with
  | zero =>
    intro i d h1 h2 h3
    exact (lwr _ _ _ _ _ _ _ _ _ _ _ K).mpr (pick_f (by simp; omega) hK)
  | succ r ih =>
    intro i d h1 h2 h3
    have hi : i < L.length := by omega
    obtain ⟨p, hp, hget, hdr⟩ := dropPl hi
    have ew : IntKind.i64.wrap ((i : Int) + 1) = ((i + 1 : Nat) : Int) := by rw [wrap_id _ (by omega) (by omega)]; rfl
    refine (lwp _ _ _ (L.map plV) calls _ _ _ _ _ p (getPl hget) _ K).mpr (pick_t (by simp; omega) (need_mk (by simp; omega) ⟨getPl hget, lw_ok h2 (by omega) hP hL c0 c1 hp ⟨nnC (okP_p1 hP) _, ?_⟩⟩))
    rw [ew]
    exact ih (i + 1) (d + 1) (by omega) (by omega) (by omega)
theorem lw_ex {zs : List Int} {P : Value} (hP : okP P = true) {L : List Pl} (hL : Lok L) {calls : Int} (c0 : 0 ≤ calls) (c1 : calls ≤ 500) (hl : L.length ≤ 4) (K : AExit → List Value → AH → Prop)
    (hK : K (.exit 0) [.string (chB (cheapF (fitS calls) calls L none)).1, .int .i64 (chE (cheapF (fitS calls) calls L none))] h0) {d : Int} (h0' : 0 ≤ d) (h1' : d ≤ 10000) :
    ∃ n, iter 0 Tryz.prog SL1 [] noHooks 600 121 [3, 4, 5, 6, 7, 8, 31, 32, 33] [1] [6, 8] [] (oneLoop (codeOf Tryz.f3) 5) n
        (lwV calls (chB (cheapF (fitS calls) calls L none)).1 (chB (cheapF (fitS calls) calls L none)).2 (chE (cheapF (fitS calls) calls L none)) (L.map plV) (L.length : Int) 0) (lwH (intsV zs) d P (L.map plV)) K :=
  ⟨_, lw_loop hP hL c0 c1 hl K hK L.length 0 d (by omega) h0' (by omega)⟩
theorem one5 : (loopAt (codeOf Tryz.f3) 5).length = 1 := by kernel_rfl
theorem someLW : Tryz.f3.body.isSome = true := by kernel_rfl
theorem okP_rs (zs : List Int) : okP (prodV (rsW (intsV zs) 0)) = true := okP_iff.2 ⟨_, rsW_ok zs (by omega) (by omega), rfl⟩
theorem empty_test : (chE none == 0) == !((chB none).1.toList == (ByteArray.mk #[]).toList) := by
  show (false == !((ByteArray.mk #[]).toList == (ByteArray.mk #[]).toList)) = true
  rw [empty_self]; rfl
theorem key_test {q : Pl} {n : Int} (h : nek q.key) : (chE (some (q, n)) == 0) == !((chB (some (q, n))).1.toList == (ByteArray.mk #[]).toList) := by
  show (true == !(q.key.toList == (ByteArray.mk #[]).toList)) = true
  rw [h]; rfl

namespace pricesGrow
theorem all (zs : List Int) : FnOK 0 Tryz.prog 3 ⟨[fz (intsV zs)]⟩ h0 (fun v _ => v = .bool true) := by
  obtain ⟨hL, e0, e1⟩ := catL_ok zs
  have hV : okV ((catL (intsV zs)).map plV) = true := okV_iff.2 ⟨_, hL, rfl⟩
  have hP := okP_rs zs
  have hb := (nextR_spec zs 501 (catE (intsV zs)) e0 (by omega) (by omega) (by omega)).1
  have w1 : IntKind.i64.wrap (0 + nextR (intsV zs) (catE (intsV zs)) 501) = nextR (intsV zs) (catE (intsV zs)) 501 := by rw [Int.zero_add]; exact wrap_id _ (by omega) (by omega)
  have hu : (((catL (intsV zs)).map plV).map unPl) = catL (intsV zs) := unPl_map _
  have hm := cheap_mem (nextR (intsV zs) (catE (intsV zs)) 501) (L := catL (intsV zs)) (catL (intsV zs)) none (fun p hp => hp) (fun q n e => by cases e)
  have hsp : LSpec 0 Tryz.prog 121 (oneLoop (codeOf Tryz.f3) 5) (hookLS 0 121 [3, 4, 5, 6, 7, 8, 31, 32, 33] [1] [6, 8] (fun vals h K =>
      (vals = lwV (nextR (intsV zs) (catE (intsV zs)) 501) (chB (cheapF (fitS (nextR (intsV zs) (catE (intsV zs)) 501)) (nextR (intsV zs) (catE (intsV zs)) 501) (catL (intsV zs)) none)).1 (chB (cheapF (fitS (nextR (intsV zs) (catE (intsV zs)) 501)) (nextR (intsV zs) (catE (intsV zs)) 501) (catL (intsV zs)) none)).2
          (chE (cheapF (fitS (nextR (intsV zs) (catE (intsV zs)) 501)) (nextR (intsV zs) (catE (intsV zs)) 501) (catL (intsV zs)) none)) ((catL (intsV zs)).map plV) ((catL (intsV zs)).length : Int) 0 ∧ h = lwH (intsV zs) (catE (intsV zs) + 1) (prodV (rsW (intsV zs) 0)) ((catL (intsV zs)).map plV)) ∧
      K (.exit 0) [.string (chB (cheapF (fitS (nextR (intsV zs) (catE (intsV zs)) 501)) (nextR (intsV zs) (catE (intsV zs)) 501) (catL (intsV zs)) none)).1, .int .i64 (chE (cheapF (fitS (nextR (intsV zs) (catE (intsV zs)) 501)) (nextR (intsV zs) (catE (intsV zs)) 501) (catL (intsV zs)) none))] h0)) := by
    refine hook_ok (G := []) (L := noHooks) (f := 600) (sameX := []) SL1_ok mixed (by decide) (loops_none _ _ _ _) ?_
    rintro vals h K ⟨⟨rfl, rfl⟩, hK⟩
    exact lw_ex hP hL hb.1 (by omega) (Lok_len hL) K hK (by omega) (by omega)
  refine FnOK.ttree SL2_ok mixed Tryz.func3 someLW (loops_one one5 hsp) (lwf LW0 (intsV zs) _ _ _ (fun v => v = .bool true)) ?_
  refine need_mk (allInts_intsV zs) (s1 e0 (show catE (intsV zs) ≤ 1000000 by omega) (need_mk ?_ (need_mk ?_ ⟨nnC (okP_p1 hP) _, ⟨?_, ?_⟩, ?_⟩)))
  · show List.all [prodV _, fz _] oneCell = true
    rfl
  · show (okP (prodV (rsW (intsV zs) 0)) && okV ((catL (intsV zs)).map plV) && true && decide (0 ≤ IntKind.i64.wrap (0 + nextR (intsV zs) (catE (intsV zs)) 501)) && decide (IntKind.i64.wrap (0 + nextR (intsV zs) (catE (intsV zs)) 501) ≤ 1000)) = true
    rw [hP, hV, w1]
    simp; omega
  · have w2 : IntKind.i64.wrap (0 + nextR (intsV zs) (LW0.en (intsV zs)) 501) = nextR (intsV zs) (catE (intsV zs)) 501 := w1
    rw [w2]
    have hs : ((Array.mk (LW0.vs (intsV zs))).size : Int) = ((catL (intsV zs)).length : Int) := by show ((((catL (intsV zs)).map plV).length : Nat) : Int) = _; rw [List.length_map]
    rw [hs]
    show lwV _ (chB (cheapF _ _ (((catL (intsV zs)).map plV).map unPl) none)).1 (chB (cheapF _ _ (((catL (intsV zs)).map plV).map unPl) none)).2 (chE (cheapF _ _ (((catL (intsV zs)).map plV).map unPl) none)) _ _ _ = _
    rw [hu]
    rfl
  · rfl
  · generalize hc : cheapF (fitS (nextR (intsV zs) (catE (intsV zs)) 501)) (nextR (intsV zs) (catE (intsV zs)) 501) (catL (intsV zs)) none = s at hm
    match s, hm with
    | none, _ => exact pick_t (by rw [show (ByteArray.mk #[] : ByteArray) = (chB none).1 from rfl]; exact empty_test) rfl
    | some (q, n), hm => exact pick_t (key_test (nek_of hL (hm q n rfl))) rfl

theorem walk (a0 : Option Addr) (len0 cap0 : Nat) (z0 : List Int) (w : World) (w0 : IsRow .i64 w a0 len0 cap0 z0) :
    Calls Tryz.prog 3 #[.slice a0 len0 cap0] w fun e w' => e = .returned (.bool true) ∧ Below w.heap.size w w' := IsRow.law all a0 len0 cap0 z0 w w0
end pricesGrow
end Go.Proofs.YtfepnpffbhjakaaGreatDoor
