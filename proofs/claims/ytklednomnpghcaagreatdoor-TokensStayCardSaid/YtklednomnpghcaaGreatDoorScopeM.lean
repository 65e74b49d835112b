/-
  'Meet' and 'LeastScopes' as specifications.
-/
import Derived.Test.YtklednomnpghcaaGreatDoorScopeL
namespace Go.Ev
open Go.RowKit
/-- A loop that is told, and then its end in other words. -/
noncomputable def thenLS (ls g : LS) : LS := fun t h K => ls t h fun e t' h' => match e with
  | .exit i => g t' h' fun _ t2 h2 => K (.exit i) t2 h2
  | e => K e t' h'
theorem thenLS_ok {p : Nat} {P : Program} {m : Nat} {b : Code} {ls g : LS} (hl : LSpec p P m b ls) (hg : GSpec p P m g) : LSpec p P m b (thenLS ls g) := by
  intro t τ h K hr hs
  refine Tri.post ((hl t τ h _ hr hs).mono ?_)
  rintro e τ' h' ⟨t', hr', hq⟩
  cases e with
  | exit i =>
    obtain ⟨t2, τ2, h2, hW, hr2, hq2⟩ := hg t' τ' h' _ hr' hq
    exact ⟨τ2, h2, hW, t2, hr2, hq2⟩
  | normal => exact ⟨τ', h', Weak.refl _ _ _ _, t', hr', hq⟩
  | ret => exact ⟨τ', h', Weak.refl _ _ _ _, t', hr', hq⟩
/-- nil as the empty frozen list. -/
def nrm : Value → Value
  | .slice none 0 _ => fz ⟨[]⟩
  | v => v
theorem nrm_rel {N : Emb} {x x' : Value} (h : VRel N x x') : VRel N (nrm x) x' := by
  unfold nrm
  split
  · cases h
    exact .fz0 none _
  · exact h
def spNrm (sp : Ev.Spec) : Ev.Spec := fun f args h => sp f ⟨args.toList.map nrm⟩ h
end Go.Ev
namespace Go.Proofs.YtklednomnpghcaaGreatDoor
open Go.Ev Go.RowKit ScopeLaw

theorem SpOK.nrm {sp : Ev.Spec} (h : SpOK sp) : SpOK (spNrm sp) := by
  intro f args H v h' hs
  obtain ⟨hc, hl⟩ := h _ _ _ _ _ hs
  refine ⟨fun N w args' hargs hr hf => hc N w args' ⟨by rw [← hargs.1]; simp, fun i x x' a b => ?_⟩ hr hf, hl⟩
  have a : (args.toList.map Go.Ev.nrm)[i]? = some x := by simpa using a
  rw [List.getElem?_map] at a
  obtain ⟨y, hy, rfl⟩ := Option.map_eq_some_iff.1 a
  exact nrm_rel (hargs.2 i y x' (by simpa using hy) b)
def SM1 : SC := ⟨idn, spCv, true, true⟩
def SM2 : SC := ⟨idn, spOr spCk spLe, true, true⟩
def blk (cs : List Value) : AH := ⟨1, 1, [(0, .cells ⟨cs⟩ 9 (0, 0))]⟩
theorem SM1_ok : SM1.cfg.OK Tryz.prog := spCv_ok.cfg
theorem SM2_ok : SM2.cfg.OK Tryz.prog := (spCk_ok.or spLe_ok).cfg
theorem inN (us bs : List Value) (x : ByteArray) (na nb i j : Int) (B : List Value → AH → Prop) (Q : AExit → List Value → AH → Prop) : (once 0 Tryz.prog SM1 [] noHooks 300 55 [1, 7, 9, 19, 20, 21, 25, 26, 27] [0] [1, 7, 19, 20, 21] [0] (oneLoop (codeOf Tryz.f11) 9) [fz ⟨bs⟩, .slice none 0 0, .string x, fz ⟨us⟩, .int .i64 na, .int .i64 i, fz ⟨bs⟩, .int .i64 nb, .int .i64 j] h0 B Q) = bif decide (j < nb) then bif decide (0 ≤ j) && decide (j < ((Array.mk bs).size : Int)) && true then (Array.mk bs).toList.getD j.toNat (Value.tuple { toList := [] }) = Value.string (toStr ((Array.mk bs).toList.getD j.toNat (Value.tuple { toList := [] }))) ∧ bif inTen x && inTen (toStr ((Array.mk bs).toList.getD j.toNat (Value.tuple { toList := [] }))) then bif covS x (toStr ((Array.mk bs).toList.getD j.toNat (Value.tuple { toList := [] }))) then NoNames (Obj.cells { toList := [Value.string (toStr ((Array.mk bs).toList.getD j.toNat (Value.tuple { toList := [] })))] } 9 (0, 0)) ∧ B [Value.func (Fn.yield 0) { toList := bs } { toList := [] }, Value.slice (some { block := 0, off := 0 }) 1 1, Value.string x, Value.func (Fn.yield 0) { toList := us } { toList := [] }, Value.int IntKind.i64 na, Value.int IntKind.i64 i, Value.func (Fn.yield 0) { toList := bs } { toList := [] }, Value.int IntKind.i64 nb, Value.int IntKind.i64 (IntKind.i64.wrap (j + 1))] { next := 1, low := 1, blocks := [(0, Obj.cells { toList := [Value.string (toStr ((Array.mk bs).toList.getD j.toNat (Value.tuple { toList := [] })))] } 9 (0, 0))] } else bif inTen (toStr ((Array.mk bs).toList.getD j.toNat (Value.tuple { toList := [] }))) && inTen x then bif covS (toStr ((Array.mk bs).toList.getD j.toNat (Value.tuple { toList := [] }))) x then NoNames (Obj.cells { toList := [Value.string x] } 9 (0, 0)) ∧ B [Value.func (Fn.yield 0) { toList := bs } { toList := [] }, Value.slice (some { block := 0, off := 0 }) 1 1, Value.string x, Value.func (Fn.yield 0) { toList := us } { toList := [] }, Value.int IntKind.i64 na, Value.int IntKind.i64 i, Value.func (Fn.yield 0) { toList := bs } { toList := [] }, Value.int IntKind.i64 nb, Value.int IntKind.i64 (IntKind.i64.wrap (j + 1))] { next := 1, low := 1, blocks := [(0, Obj.cells { toList := [Value.string x] } 9 (0, 0))] } else B [Value.func (Fn.yield 0) { toList := bs } { toList := [] }, Value.slice none 0 0, Value.string x, Value.func (Fn.yield 0) { toList := us } { toList := [] }, Value.int IntKind.i64 na, Value.int IntKind.i64 i, Value.func (Fn.yield 0) { toList := bs } { toList := [] }, Value.int IntKind.i64 nb, Value.int IntKind.i64 (IntKind.i64.wrap (j + 1))] { next := 0, low := 0, blocks := [] } else False else False else False else Q (AExit.exit 2) [Value.func (Fn.yield 0) { toList := bs } { toList := [] }, Value.slice none 0 0, Value.func (Fn.yield 0) { toList := us } { toList := [] }, Value.int IntKind.i64 na, Value.int IntKind.i64 i] { next := 0, low := 0, blocks := [] } := by kernel_rfl
theorem inB (us bs cs : List Value) (x : ByteArray) (na nb i j : Int) (k : Nat) (B : List Value → AH → Prop) (Q : AExit → List Value → AH → Prop) : (once 0 Tryz.prog SM1 [] noHooks 300 55 [1, 7, 9, 19, 20, 21, 25, 26, 27] [0] [1, 7, 19, 20, 21] [0] (oneLoop (codeOf Tryz.f11) 9) [fz ⟨bs⟩, .slice (some ⟨0, 0, none⟩) k k, .string x, fz ⟨us⟩, .int .i64 na, .int .i64 i, fz ⟨bs⟩, .int .i64 nb, .int .i64 j] (blk cs) B Q) = bif decide (j < nb) then bif decide (0 ≤ j) && decide (j < ((Array.mk bs).size : Int)) && true then (Array.mk bs).toList.getD j.toNat (Value.tuple { toList := [] }) = Value.string (toStr ((Array.mk bs).toList.getD j.toNat (Value.tuple { toList := [] }))) ∧ bif inTen x && inTen (toStr ((Array.mk bs).toList.getD j.toNat (Value.tuple { toList := [] }))) then bif covS x (toStr ((Array.mk bs).toList.getD j.toNat (Value.tuple { toList := [] }))) then bif (k + 1).ble k then False else bif (k + 1).ble 9223372036854775807 && ((k + 1) * 16).ble 140737488355328 then bif (0 + k * 1).ble (Array.mk cs).size && true && true then NoNames (Obj.cells { toList := List.take (k * 1) (List.drop 0 (Array.mk cs).toList) ++ [Value.string (toStr ((Array.mk bs).toList.getD j.toNat (Value.tuple { toList := [] })))] } 9 (0, 0)) ∧ B [Value.func (Fn.yield 0) { toList := bs } { toList := [] }, Value.slice (some { block := 0, off := 0 }) (k + 1) (k + 1), Value.string x, Value.func (Fn.yield 0) { toList := us } { toList := [] }, Value.int IntKind.i64 na, Value.int IntKind.i64 i, Value.func (Fn.yield 0) { toList := bs } { toList := [] }, Value.int IntKind.i64 nb, Value.int IntKind.i64 (IntKind.i64.wrap (j + 1))] { next := 1, low := 1, blocks := [(0, Obj.cells { toList := List.take (k * 1) (List.drop 0 (Array.mk cs).toList) ++ [Value.string (toStr ((Array.mk bs).toList.getD j.toNat (Value.tuple { toList := [] })))] } 9 (0, 0))] } else False else False else bif inTen (toStr ((Array.mk bs).toList.getD j.toNat (Value.tuple { toList := [] }))) && inTen x then bif covS (toStr ((Array.mk bs).toList.getD j.toNat (Value.tuple { toList := [] }))) x then bif (k + 1).ble k then False else bif (k + 1).ble 9223372036854775807 && ((k + 1) * 16).ble 140737488355328 then bif (0 + k * 1).ble (Array.mk cs).size && true && true then NoNames (Obj.cells { toList := List.take (k * 1) (List.drop 0 (Array.mk cs).toList) ++ [Value.string x] } 9 (0, 0)) ∧ B [Value.func (Fn.yield 0) { toList := bs } { toList := [] }, Value.slice (some { block := 0, off := 0 }) (k + 1) (k + 1), Value.string x, Value.func (Fn.yield 0) { toList := us } { toList := [] }, Value.int IntKind.i64 na, Value.int IntKind.i64 i, Value.func (Fn.yield 0) { toList := bs } { toList := [] }, Value.int IntKind.i64 nb, Value.int IntKind.i64 (IntKind.i64.wrap (j + 1))] { next := 1, low := 1, blocks := [(0, Obj.cells { toList := List.take (k * 1) (List.drop 0 (Array.mk cs).toList) ++ [Value.string x] } 9 (0, 0))] } else False else False else NoNames (Obj.cells { toList := cs } 9 (0, 0)) ∧ B [Value.func (Fn.yield 0) { toList := bs } { toList := [] }, Value.slice (some { block := 0, off := 0 }) k k, Value.string x, Value.func (Fn.yield 0) { toList := us } { toList := [] }, Value.int IntKind.i64 na, Value.int IntKind.i64 i, Value.func (Fn.yield 0) { toList := bs } { toList := [] }, Value.int IntKind.i64 nb, Value.int IntKind.i64 (IntKind.i64.wrap (j + 1))] { next := 1, low := 1, blocks := [(0, Obj.cells { toList := cs } 9 (0, 0))] } else False else False else False else NoNames (Obj.cells { toList := cs } 9 (0, 0)) ∧ Q (AExit.exit 2) [Value.func (Fn.yield 0) { toList := bs } { toList := [] }, Value.slice (some { block := 0, off := 0 }) k k, Value.func (Fn.yield 0) { toList := us } { toList := [] }, Value.int IntKind.i64 na, Value.int IntKind.i64 i] { next := 1, low := 1, blocks := [(0, Obj.cells { toList := cs } 9 (0, 0))] } := by kernel_rfl
theorem ouNN (us bs cs ds : List Value) (k l : Nat) (na i : Int) (C : List Value → AH → Prop) (B : List Value → AH → Prop) (Q : AExit → List Value → AH → Prop) : (once 0 Tryz.prog SM1 [] (hook1 9 (hookLS 0 55 [1, 7, 9, 19, 20, 21, 25, 26, 27] [0] [1, 7, 19, 20, 21] (fun vals h K => C vals h ∧ K (.exit 2) [fz ⟨bs⟩, .slice none 0 0, fz ⟨us⟩, .int .i64 na, .int .i64 i] h0))) 300 55 [1, 7, 19, 20, 21] [0] [7] [0] (oneLoop (codeOf Tryz.f11) 6) [fz ⟨bs⟩, .slice none 0 0, fz ⟨us⟩, .int .i64 na, .int .i64 i] h0 B Q) = bif decide (i < na) then bif decide (0 ≤ i) && decide (i < ((Array.mk us).size : Int)) && true then (Array.mk us).toList.getD i.toNat (Value.tuple { toList := [] }) = Value.string (toStr ((Array.mk us).toList.getD i.toNat (Value.tuple { toList := [] }))) ∧ C [Value.func (Fn.yield 0) { toList := bs } { toList := [] }, Value.slice none 0 0, Value.string (toStr ((Array.mk us).toList.getD i.toNat (Value.tuple { toList := [] }))), Value.func (Fn.yield 0) { toList := us } { toList := [] }, Value.int IntKind.i64 na, Value.int IntKind.i64 i, Value.func (Fn.yield 0) { toList := bs } { toList := [] }, Value.int IntKind.i64 ((Array.mk bs).size : Int), Value.int IntKind.i64 0] { next := 0, low := 0, blocks := [] } ∧ B [Value.func (Fn.yield 0) { toList := bs } { toList := [] }, Value.slice none 0 0, Value.func (Fn.yield 0) { toList := us } { toList := [] }, Value.int IntKind.i64 na, Value.int IntKind.i64 (IntKind.i64.wrap (i + 1))] { next := 0, low := 0, blocks := [] } else False else Q (AExit.exit 0) [Value.slice none 0 0] { next := 0, low := 0, blocks := [] } := by kernel_rfl
theorem ouNB (us bs cs ds : List Value) (k l : Nat) (na i : Int) (C : List Value → AH → Prop) (B : List Value → AH → Prop) (Q : AExit → List Value → AH → Prop) : (once 0 Tryz.prog SM1 [] (hook1 9 (hookLS 0 55 [1, 7, 9, 19, 20, 21, 25, 26, 27] [0] [1, 7, 19, 20, 21] (fun vals h K => C vals h ∧ K (.exit 2) [fz ⟨bs⟩, .slice (some ⟨0, 0, none⟩) l l, fz ⟨us⟩, .int .i64 na, .int .i64 i] (blk ds)))) 300 55 [1, 7, 19, 20, 21] [0] [7] [0] (oneLoop (codeOf Tryz.f11) 6) [fz ⟨bs⟩, .slice none 0 0, fz ⟨us⟩, .int .i64 na, .int .i64 i] h0 B Q) = bif decide (i < na) then bif decide (0 ≤ i) && decide (i < ((Array.mk us).size : Int)) && true then (Array.mk us).toList.getD i.toNat (Value.tuple { toList := [] }) = Value.string (toStr ((Array.mk us).toList.getD i.toNat (Value.tuple { toList := [] }))) ∧ C [Value.func (Fn.yield 0) { toList := bs } { toList := [] }, Value.slice none 0 0, Value.string (toStr ((Array.mk us).toList.getD i.toNat (Value.tuple { toList := [] }))), Value.func (Fn.yield 0) { toList := us } { toList := [] }, Value.int IntKind.i64 na, Value.int IntKind.i64 i, Value.func (Fn.yield 0) { toList := bs } { toList := [] }, Value.int IntKind.i64 ((Array.mk bs).size : Int), Value.int IntKind.i64 0] { next := 0, low := 0, blocks := [] } ∧ NoNames (Obj.cells { toList := ds } 9 (0, 0)) ∧ B [Value.func (Fn.yield 0) { toList := bs } { toList := [] }, Value.slice (some { block := 0, off := 0 }) l l, Value.func (Fn.yield 0) { toList := us } { toList := [] }, Value.int IntKind.i64 na, Value.int IntKind.i64 (IntKind.i64.wrap (i + 1))] { next := 1, low := 1, blocks := [(0, Obj.cells { toList := ds } 9 (0, 0))] } else False else Q (AExit.exit 0) [Value.slice none 0 0] { next := 0, low := 0, blocks := [] } := by kernel_rfl
theorem ouBB (us bs cs ds : List Value) (k l : Nat) (na i : Int) (C : List Value → AH → Prop) (B : List Value → AH → Prop) (Q : AExit → List Value → AH → Prop) : (once 0 Tryz.prog SM1 [] (hook1 9 (hookLS 0 55 [1, 7, 9, 19, 20, 21, 25, 26, 27] [0] [1, 7, 19, 20, 21] (fun vals h K => C vals h ∧ K (.exit 2) [fz ⟨bs⟩, .slice (some ⟨0, 0, none⟩) l l, fz ⟨us⟩, .int .i64 na, .int .i64 i] (blk ds)))) 300 55 [1, 7, 19, 20, 21] [0] [7] [0] (oneLoop (codeOf Tryz.f11) 6) [fz ⟨bs⟩, .slice (some ⟨0, 0, none⟩) k k, fz ⟨us⟩, .int .i64 na, .int .i64 i] (blk cs) B Q) = bif decide (i < na) then bif decide (0 ≤ i) && decide (i < ((Array.mk us).size : Int)) && true then (Array.mk us).toList.getD i.toNat (Value.tuple { toList := [] }) = Value.string (toStr ((Array.mk us).toList.getD i.toNat (Value.tuple { toList := [] }))) ∧ NoNames (Obj.cells { toList := cs } 9 (0, 0)) ∧ C [Value.func (Fn.yield 0) { toList := bs } { toList := [] }, Value.slice (some { block := 0, off := 0 }) k k, Value.string (toStr ((Array.mk us).toList.getD i.toNat (Value.tuple { toList := [] }))), Value.func (Fn.yield 0) { toList := us } { toList := [] }, Value.int IntKind.i64 na, Value.int IntKind.i64 i, Value.func (Fn.yield 0) { toList := bs } { toList := [] }, Value.int IntKind.i64 ((Array.mk bs).size : Int), Value.int IntKind.i64 0] { next := 1, low := 1, blocks := [(0, Obj.cells { toList := cs } 9 (0, 0))] } ∧ NoNames (Obj.cells { toList := ds } 9 (0, 0)) ∧ B [Value.func (Fn.yield 0) { toList := bs } { toList := [] }, Value.slice (some { block := 0, off := 0 }) l l, Value.func (Fn.yield 0) { toList := us } { toList := [] }, Value.int IntKind.i64 na, Value.int IntKind.i64 (IntKind.i64.wrap (i + 1))] { next := 1, low := 1, blocks := [(0, Obj.cells { toList := ds } 9 (0, 0))] } else False else NoNames (Obj.cells { toList := cs } 9 (0, 0)) ∧ Q (AExit.exit 0) [Value.slice (some { block := 0, off := 0 }) k k] { next := 1, low := 1, blocks := [(0, Obj.cells { toList := cs } 9 (0, 0))] } := by kernel_rfl
theorem meN (us bs cs : List Value) (k : Nat) (C : List Value → AH → Prop) (Q : Value → Prop) : (tfn Tryz.prog SM2 [] (hook1 6 (hookLS 0 55 [1, 7, 19, 20, 21] [0] [7] (fun vals h K => C vals h ∧ K (.exit 0) [.slice none 0 0] h0))) 300 [] Tryz.f11 [fz ⟨us⟩, fz ⟨bs⟩] h0 (fun v _ => Q v)) = bif tenR us then bif tenR bs then C [Value.func (Fn.yield 0) { toList := bs } { toList := [] }, Value.slice none 0 0, Value.func (Fn.yield 0) { toList := us } { toList := [] }, Value.int IntKind.i64 ((Array.mk us).size : Int), Value.int IntKind.i64 0] { next := 0, low := 0, blocks := [] } ∧ Q (Value.tuple { toList := [Value.func (Fn.yield 0) { toList := [] } { toList := [] }, Value.int IntKind.i64 0] }) else False else False := by kernel_rfl
theorem meB (us bs cs : List Value) (k : Nat) (C : List Value → AH → Prop) (Q : Value → Prop) : (tfn Tryz.prog SM2 [] (hook1 6 (thenLS (hookLS 0 55 [1, 7, 19, 20, 21] [0] [7] (fun vals h K => C vals h ∧ K (.exit 0) [.slice (some ⟨0, 0, none⟩) k k] (blk cs))) (freezeG 55 false 1 [7]))) 300 [] Tryz.f11 [fz ⟨us⟩, fz ⟨bs⟩] h0 (fun v _ => Q v)) = bif tenR us then bif tenR bs then C [Value.func (Fn.yield 0) { toList := bs } { toList := [] }, Value.slice none 0 0, Value.func (Fn.yield 0) { toList := us } { toList := [] }, Value.int IntKind.i64 ((Array.mk us).size : Int), Value.int IntKind.i64 0] { next := 0, low := 0, blocks := [] } ∧ bif allS (sameSl 0 k k) (stOf 55 [7] [Value.slice (some { block := 0, off := 0 }) k k]) [7] && (Array.mk cs).toList.all p1 && k.ble k && (k * 1).ble (Array.mk cs).size && true then bif nineR (chunk false 1 k (Array.mk cs).toList) && Nat.ble 1 (chunk false 1 k (Array.mk cs).toList).length then bif decide (((Array.mk (leastV (chunk false 1 k (Array.mk cs).toList))).size : Int) > 50) then Q (Value.tuple { toList := [Value.slice none 0 0, Value.int IntKind.i64 2] }) else Q (Value.tuple { toList := [Value.func (Fn.yield 0) { toList := leastV (chunk false 1 k (Array.mk cs).toList) } { toList := [] }, Value.int IntKind.i64 0] }) else False else False else False else False := by kernel_rfl

def outV : List ByteArray → Value
  | [] => .slice none 0 0
  | k :: l => .slice (some ⟨0, 0, none⟩) (k :: l).length (k :: l).length
def outH : List ByteArray → AH
  | [] => h0
  | k :: l => blk ((k :: l).map Value.string)
def mRow (x : ByteArray) (bs : List Value) : List ByteArray := bs.flatMap fun v => cond (covS x (toStr v)) [toStr v] (cond (covS (toStr v) x) [x] [])
def mAll (us bs : List Value) : List ByteArray := us.flatMap fun u => mRow (toStr u) bs
theorem nn_str (l : List ByteArray) (t : TypeId) (fr : Nat × Nat) : NoNames (.cells ⟨l.map Value.string⟩ t fr) := by
  intro v hv
  obtain ⟨s, _, rfl⟩ := List.mem_map.1 (show v ∈ l.map Value.string by simpa using hv)
  rfl
theorem in_both {x y : ByteArray} (hx : inTen x = true) (hy : inTen y = true) : (inTen x && inTen y) = true := by rw [hx, hy]; rfl
theorem mRow_t {x : ByteArray} {v : Value} (l : List Value) (hc : covS x (toStr v) = true) : mRow x (v :: l) = toStr v :: mRow x l := by simp [mRow, hc]
theorem mRow_s {x : ByteArray} {v : Value} (l : List Value) (hc : covS x (toStr v) = false) (hd : covS (toStr v) x = true) : mRow x (v :: l) = x :: mRow x l := by simp [mRow, hc, hd]
theorem mRow_n {x : ByteArray} {v : Value} (l : List Value) (hc : covS x (toStr v) = false) (hd : covS (toStr v) x = false) : mRow x (v :: l) = mRow x l := by simp [mRow, hc, hd]
theorem in_loop {us bs : List Value} {x : ByteArray} {na i : Int} (hb : tenR bs = true) (hx : inTen x = true) (K : AExit → List Value → AH → Prop) :
    ∀ (r j : Nat) (l : List ByteArray), j + r = bs.length → l.length + r ≤ 2000 → K (.exit 2) [fz ⟨bs⟩, outV (l ++ mRow x (bs.drop j)), fz ⟨us⟩, .int .i64 na, .int .i64 i] (outH (l ++ mRow x (bs.drop j))) →
      iter 0 Tryz.prog SM1 [] noHooks 300 55 [1, 7, 9, 19, 20, 21, 25, 26, 27] [0] [1, 7, 19, 20, 21] [0] (oneLoop (codeOf Tryz.f11) 9) (r + 1) [fz ⟨bs⟩, outV l, .string x, fz ⟨us⟩, .int .i64 na, .int .i64 i, fz ⟨bs⟩, .int .i64 (bs.length : Int), .int .i64 (j : Int)] (outH l) K := by
  have hlen := ten_len hb
  intro r
  induction r with
  | zero =>
    intro j l h1 h2 h3
    rw [List.drop_eq_nil_of_le (by omega)] at h3
    simp only [mRow, List.flatMap_nil, List.append_nil] at h3
    cases l with
    | nil => exact (inN us bs x _ _ _ _ _ K).mpr (pick_f (by simp; omega) h3)
    | cons k l => exact (inB us bs _ x _ _ _ _ _ _ K).mpr (pick_f (by simp; omega) ⟨nn_str (k :: l) _ _, h3⟩)
  | succ r ih =>
    intro j l h1 h2 h3
    have hj : j < bs.length := by omega
    obtain ⟨t1, t2⟩ := ten_at hb hj
    have e : (Array.mk bs).toList.getD (j : Int).toNat (Value.tuple { toList := [] }) = bs.getD j (Value.tuple { toList := [] }) := by simp
    have ew : IntKind.i64.wrap ((j : Int) + 1) = ((j + 1 : Nat) : Int) := by rw [wrap_id _ (by omega) (by omega)]; rfl
    rw [drop_cons hj] at h3
    cases l with
    | nil =>
      refine (inN us bs x _ _ _ _ _ K).mpr (pick_t (by simp; omega) (need_mk (in_v hj) ?_))
      rw [e, ew]
      refine ⟨t2, need_mk (in_both hx t1) ?_⟩
      cases hc : covS x (toStr (bs.getD j (Value.tuple { toList := [] }))) with
      | true =>
        have h4 := ih (j + 1) [toStr (bs.getD j (Value.tuple { toList := [] }))] (by omega) (by simp at h2 ⊢; omega) (by rw [mRow_t _ hc] at h3; simpa using h3)
        exact pick_t rfl ⟨nn_str [_] _ _, h4⟩
      | false =>
        refine pick_f rfl (need_mk (in_both t1 hx) ?_)
        cases hd : covS (toStr (bs.getD j (Value.tuple { toList := [] }))) x with
        | true =>
          have h4 := ih (j + 1) [x] (by omega) (by simp at h2 ⊢; omega) (by rw [mRow_s _ hc hd] at h3; simpa using h3)
          exact pick_t rfl ⟨nn_str [_] _ _, h4⟩
        | false =>
          have h4 := ih (j + 1) [] (by omega) (by simp at h2 ⊢; omega) (by rw [mRow_n _ hc hd] at h3; simpa using h3)
          exact pick_f rfl h4
    | cons k l =>
      have hlen2 : ((k :: l).map Value.string).length = (k :: l).length := List.length_map _
      have app : ∀ s : ByteArray, (k :: l).map Value.string ++ [.string s] = (k :: l ++ [s]).map Value.string := fun s => by simp
      have ev : ∀ s : ByteArray, outV (k :: l ++ [s]) = .slice (some ⟨0, 0, none⟩) ((k :: l).length + 1) ((k :: l).length + 1) := fun s => by simp [outV]
      refine (inB us bs _ x _ _ _ _ _ _ K).mpr (pick_t (by simp; omega) (need_mk (in_v hj) ?_))
      rw [e, ew]
      refine ⟨t2, need_mk (in_both hx t1) ?_⟩
      cases hc : covS x (toStr (bs.getD j (Value.tuple { toList := [] }))) with
      | true =>
        have h4 := ih (j + 1) (k :: l ++ [toStr (bs.getD j (Value.tuple { toList := [] }))]) (by omega) (by simp at h2 ⊢; omega) (by rw [mRow_t _ hc] at h3; simpa using h3)
        refine pick_t rfl (pick_f (ble_ss _) (need_mk (ble_big _ (by omega)) (need_mk (ble_len hlen2) ?_)))
        rw [take_ok hlen2, app]
        rw [ev] at h4
        exact ⟨nn_str _ _ _, h4⟩
      | false =>
        refine pick_f rfl (need_mk (in_both t1 hx) ?_)
        cases hd : covS (toStr (bs.getD j (Value.tuple { toList := [] }))) x with
        | true =>
          have h4 := ih (j + 1) (k :: l ++ [x]) (by omega) (by simp at h2 ⊢; omega) (by rw [mRow_s _ hc hd] at h3; simpa using h3)
          refine pick_t rfl (pick_f (ble_ss _) (need_mk (ble_big _ (by omega)) (need_mk (ble_len hlen2) ?_)))
          rw [take_ok hlen2, app]
          rw [ev] at h4
          exact ⟨nn_str _ _ _, h4⟩
        | false =>
          have h4 := ih (j + 1) (k :: l) (by omega) (by simp at h2 ⊢; omega) (by rw [mRow_n _ hc hd] at h3; simpa using h3)
          exact pick_f rfl ⟨nn_str _ _ _, h4⟩
theorem in_ex {us bs : List Value} {x : ByteArray} {na i : Int} (hb : tenR bs = true) (hx : inTen x = true) (K : AExit → List Value → AH → Prop) (l : List ByteArray) (hl : l.length ≤ 1000)
    (hK : K (.exit 2) [fz ⟨bs⟩, outV (l ++ mRow x bs), fz ⟨us⟩, .int .i64 na, .int .i64 i] (outH (l ++ mRow x bs))) :
    ∃ n, iter 0 Tryz.prog SM1 [] noHooks 300 55 [1, 7, 9, 19, 20, 21, 25, 26, 27] [0] [1, 7, 19, 20, 21] [0] (oneLoop (codeOf Tryz.f11) 9) n [fz ⟨bs⟩, outV l, .string x, fz ⟨us⟩, .int .i64 na, .int .i64 i, fz ⟨bs⟩, .int .i64 (bs.length : Int), .int .i64 0] (outH l) K :=
  ⟨_, in_loop hb hx K bs.length 0 l (by omega) (by have := ten_len hb; omega) hK⟩
theorem inner_eq : oneLoop (oneLoop (codeOf Tryz.f11) 6) 9 = oneLoop (codeOf Tryz.f11) 9 := by kernel_rfl
theorem one6 : (loopAt (codeOf Tryz.f11) 6).length = 1 := by kernel_rfl
theorem one9 : (loopAt (oneLoop (codeOf Tryz.f11) 6) 9).length = 1 := by kernel_rfl
/-- What the inner loop does, told. -/
noncomputable def Lof (C : List Value → AH → Prop) (us bs : List Value) (na i : Int) (l' : List ByteArray) : Hooks := hook1 9 (hookLS 0 55 [1, 7, 9, 19, 20, 21, 25, 26, 27] [0] [1, 7, 19, 20, 21] (fun vals h K =>
  C vals h ∧ K (.exit 2) [fz ⟨bs⟩, outV l', fz ⟨us⟩, .int .i64 na, .int .i64 i] (outH l')))
def Cof (us bs : List Value) (x : ByteArray) (na i : Int) (l : List ByteArray) (vals : List Value) (h : AH) : Prop :=
  vals = [fz ⟨bs⟩, outV l, .string x, fz ⟨us⟩, .int .i64 na, .int .i64 i, fz ⟨bs⟩, .int .i64 (bs.length : Int), .int .i64 0] ∧ h = outH l
theorem Lof_ok {us bs : List Value} {x : ByteArray} {na i : Int} {l l' : List ByteArray} (hb : tenR bs = true) (hx : inTen x = true) (hl : l.length ≤ 1000) (hq : l ++ mRow x bs = l') : LoopsOK 0 Tryz.prog 55 (Lof (Cof us bs x na i l) us bs na i l') (oneLoop (codeOf Tryz.f11) 6) := by
  refine loops_one one9 ?_
  rw [inner_eq]
  refine hook_ok (G := []) (L := noHooks) (f := 300) (sameX := [0]) SM1_ok mixed (by decide) (loops_none _ _ _ _) ?_
  rintro vals h K ⟨⟨rfl, rfl⟩, hK⟩
  subst hq
  exact in_ex hb hx K l hl hK
theorem Lof_no (us bs : List Value) (na i : Int) (l' : List ByteArray) : LoopsOK 0 Tryz.prog 55 (Lof (fun _ _ => False) us bs na i l') (oneLoop (codeOf Tryz.f11) 6) := by
  refine loops_one one9 ?_
  rw [inner_eq]
  refine hook_ok (G := []) (L := noHooks) (f := 300) (sameX := [0]) SM1_ok mixed (by decide) (loops_none _ _ _ _) ?_
  rintro vals h K ⟨hf, _⟩
  exact hf.elim
theorem mRow_len (x : ByteArray) : ∀ bs : List Value, (mRow x bs).length ≤ bs.length
  | [] => Nat.le_refl _
  | v :: l => by
    have ih := mRow_len x l
    cases hc : covS x (toStr v) with
    | true => rw [mRow_t _ hc, List.length_cons, List.length_cons]; omega
    | false =>
      cases hd : covS (toStr v) x with
      | true => rw [mRow_s _ hc hd, List.length_cons, List.length_cons]; omega
      | false => rw [mRow_n _ hc hd, List.length_cons]; omega
theorem mAll_cons (u : Value) (us bs : List Value) : mAll (u :: us) bs = mRow (toStr u) bs ++ mAll us bs := by simp [mAll]
theorem out_loop {us bs : List Value} (hu : tenR us = true) (hb : tenR bs = true) (hb4 : bs.length ≤ 4) (K : AExit → List Value → AH → Prop) :
    ∀ (r i : Nat) (l : List ByteArray), i + r = us.length → l.length ≤ 4 * i → K (.exit 0) [outV (l ++ mAll (us.drop i) bs)] (outH (l ++ mAll (us.drop i) bs)) →
      iterE 0 Tryz.prog 55 [1, 7, 19, 20, 21] [0] [7] [0] (oneLoop (codeOf Tryz.f11) 6) (r + 1) [fz ⟨bs⟩, outV l, fz ⟨us⟩, .int .i64 (us.length : Int), .int .i64 (i : Int)] (outH l) K := by
  have hlen := ten_len hu
  intro r
  induction r with
  | zero =>
    intro i l h1 h2 h3
    rw [List.drop_eq_nil_of_le (by omega)] at h3
    simp only [mAll, List.flatMap_nil, List.append_nil] at h3
    cases l with
    | nil => exact ⟨SM1, [], Lof (fun _ _ => False) us bs _ _ [], 300, SM1_ok, Lof_no _ _ _ _ _, (ouNN us bs [] [] 0 0 _ _ _ _ K).mpr (pick_f (by simp; omega) h3)⟩
    | cons k l => exact ⟨SM1, [], Lof (fun _ _ => False) us bs _ _ (k :: l), 300, SM1_ok, Lof_no _ _ _ _ _, (ouBB us bs ((k :: l).map Value.string) ((k :: l).map Value.string) (k :: l).length (k :: l).length _ _ _ _ K).mpr (pick_f (by simp; omega) ⟨nn_str (k :: l) _ _, h3⟩)⟩
  | succ r ih =>
    intro i l h1 h2 h3
    have hi : i < us.length := by omega
    obtain ⟨t1, t2⟩ := ten_at hu hi
    have e : (Array.mk us).toList.getD (i : Int).toNat (Value.tuple { toList := [] }) = us.getD i (Value.tuple { toList := [] }) := by simp
    have ew : IntKind.i64.wrap ((i : Int) + 1) = ((i + 1 : Nat) : Int) := by rw [wrap_id _ (by omega) (by omega)]; rfl
    rw [drop_cons hi] at h3
    have hr := mRow_len (toStr (us.getD i (Value.tuple { toList := [] }))) bs
    have h4 := ih (i + 1) (l ++ mRow (toStr (us.getD i (Value.tuple { toList := [] }))) bs) (by omega) (by rw [List.length_append]; omega) (by rw [mAll_cons] at h3; simpa using h3)
    have hlt : decide ((i : Int) < (us.length : Int)) = true := by simp; omega
    have hL := fun l' hq => Lof_ok (us := us) (bs := bs) (x := toStr (us.getD i (Value.tuple { toList := [] }))) (na := (us.length : Int)) (i := (i : Int)) (l := l) (l' := l') hb t1 (by omega) hq
    cases l with
    | nil =>
      cases hq : ([] : List ByteArray) ++ mRow (toStr (us.getD i (Value.tuple { toList := [] }))) bs with
      | nil =>
        rw [hq] at h4
        refine ⟨SM1, [], _, 300, SM1_ok, hL [] hq, (ouNN us bs [] [] 0 0 _ _ (Cof us bs (toStr (us.getD i (Value.tuple { toList := [] }))) (us.length : Int) (i : Int) []) _ K).mpr (pick_t hlt (need_mk (in_v hi) ?_))⟩
        rw [e, ew]
        exact ⟨t2, ⟨rfl, rfl⟩, h4⟩
      | cons k q =>
        rw [hq] at h4
        refine ⟨SM1, [], _, 300, SM1_ok, hL (k :: q) hq, (ouNB us bs [] ((k :: q).map Value.string) 0 (k :: q).length _ _ (Cof us bs (toStr (us.getD i (Value.tuple { toList := [] }))) (us.length : Int) (i : Int) []) _ K).mpr (pick_t hlt (need_mk (in_v hi) ?_))⟩
        rw [e, ew]
        exact ⟨t2, ⟨rfl, rfl⟩, nn_str (k :: q) _ _, h4⟩
    | cons k l =>
      cases hq : (k :: l) ++ mRow (toStr (us.getD i (Value.tuple { toList := [] }))) bs with
      | nil => simp at hq
      | cons k' q =>
        rw [hq] at h4
        refine ⟨SM1, [], _, 300, SM1_ok, hL (k' :: q) hq, (ouBB us bs ((k :: l).map Value.string) ((k' :: q).map Value.string) (k :: l).length (k' :: q).length _ _ (Cof us bs (toStr (us.getD i (Value.tuple { toList := [] }))) (us.length : Int) (i : Int) (k :: l)) _ K).mpr (pick_t hlt (need_mk (in_v hi) ?_))⟩
        rw [e, ew]
        exact ⟨t2, nn_str (k :: l) _ _, ⟨rfl, rfl⟩, nn_str (k' :: q) _ _, h4⟩
theorem out_ex {us bs : List Value} (hu : tenR us = true) (hb : tenR bs = true) (hb4 : bs.length ≤ 4) (K : AExit → List Value → AH → Prop) (hK : K (.exit 0) [outV (mAll us bs)] (outH (mAll us bs))) :
    ∃ n, iterE 0 Tryz.prog 55 [1, 7, 19, 20, 21] [0] [7] [0] (oneLoop (codeOf Tryz.f11) 6) n [fz ⟨bs⟩, .slice none 0 0, fz ⟨us⟩, .int .i64 (us.length : Int), .int .i64 0] h0 K :=
  ⟨_, out_loop hu hb hb4 K us.length 0 [] (by omega) (Nat.zero_le _) hK⟩
theorem mRow_un (x : ByteArray) : ∀ bs : List Value, (mRow x bs).map (fun s => s.data.toList) = (bs.map unS).flatMap fun y => if covB x.data.toList y then [y] else if covB y x.data.toList then [x.data.toList] else []
  | [] => rfl
  | v :: l => by
    have ih := mRow_un x l
    simp only [mRow, List.flatMap_cons, List.map_append, List.map_cons] at ih ⊢
    rw [ih]
    congr 1
    unfold covS unS
    cases covB x.data.toList (toStr v).data.toList <;> cases covB (toStr v).data.toList x.data.toList <;> rfl
theorem mAll_un (bs : List Value) : ∀ us : List Value, (mAll us bs).map (fun s => s.data.toList) = meetL covB (us.map unS) (bs.map unS)
  | [] => rfl
  | u :: l => by
    have ih := mAll_un bs l
    simp only [mAll, meetL, List.flatMap_cons, List.map_append, List.map_cons] at ih ⊢
    rw [ih, mRow_un]
    rfl
theorem mAll_len (us bs : List Value) : (mAll us bs).length ≤ us.length * bs.length := by
  induction us with
  | nil => simp [mAll]
  | cons u l ih =>
    have := mRow_len (toStr u) bs
    simp only [mAll, List.flatMap_cons, List.length_append, List.length_cons, Nat.succ_mul] at ih ⊢
    omega
/-- At most four of the nine. -/
def fourR (vs : List Value) : Bool := vs.all isNine && Nat.ble vs.length 4
theorem fourR_nine {vs : List Value} (h : fourR vs = true) : nineR vs = true ∧ vs.length ≤ 4 := by
  simp only [fourR, nineR, Bool.and_eq_true, Nat.ble_eq] at h ⊢
  exact ⟨⟨h.1, by omega⟩, h.2⟩
theorem nineR_ten {vs : List Value} (h : nineR vs = true) : tenR vs = true := by
  obtain ⟨e, hin, h16, _⟩ := nineR_ok h
  rw [e]
  exact tenR_mk (fun x hx => nine_ten x (hin x hx)) (by simp; omega)
def meetV (us bs : List Value) : List Value := (meetR (us.map unS) (bs.map unS)).map scp
theorem str_scp (l : List ByteArray) : l.map Value.string = (l.map fun s => s.data.toList).map scp := by
  rw [List.map_map]
  exact List.map_congr_left fun s _ => scp_un s
theorem chunk_str : ∀ (l : List ByteArray), chunk false 1 l.length (l.map Value.string) = l.map Value.string
  | [] => rfl
  | s :: l => by
    simp only [List.length_cons, List.map_cons, chunk]
    rw [show ((Value.string s :: l.map Value.string).drop 1) = l.map Value.string from rfl, chunk_str l]
    rfl
theorem some11 : Tryz.f11.body.isSome = true := by kernel_rfl
theorem some9 : Tryz.f9.body.isSome = true := by kernel_rfl
theorem rising_nil : rising [] = [] := by
  have h := cut_le (srt [])
  rw [srt_len] at h
  exact List.eq_nil_of_length_eq_zero (Nat.le_zero.1 h)
theorem me_fn {us bs : List Value} (hu : fourR us = true) (hb : fourR bs = true) : FnOK 0 Tryz.prog 11 ⟨[fz ⟨us⟩, fz ⟨bs⟩]⟩ h0 (fun v _ => v = .tuple ⟨[fz ⟨meetV us bs⟩, .int .i64 0]⟩) := by
  obtain ⟨un, u4⟩ := fourR_nine hu
  obtain ⟨bn, b4⟩ := fourR_nine hb
  have ut := nineR_ten un
  have bt := nineR_ten bn
  have hC : ∀ out, mAll us bs = out → LSpec 0 Tryz.prog 55 (oneLoop (codeOf Tryz.f11) 6) (hookLS 0 55 [1, 7, 19, 20, 21] [0] [7] (fun vals h K => (vals = [fz ⟨bs⟩, .slice none 0 0, fz ⟨us⟩, .int .i64 (us.length : Int), .int .i64 0] ∧ h = h0) ∧ K (.exit 0) [outV out] (outH out))) := by
    rintro out rfl
    refine hookE_ok (sameX := [0]) mixed (by decide) ?_
    rintro vals h K ⟨⟨rfl, rfl⟩, hK⟩
    exact out_ex ut bt b4 K hK
  have hun := mAll_un bs us
  have hlen := mAll_len us bs
  have h44 : us.length * bs.length ≤ 4 * 4 := Nat.mul_le_mul u4 b4
  cases ho : mAll us bs with
  | nil =>
    rw [ho] at hun
    have hm : meetV us bs = [] := by
      unfold meetV meetR
      rw [← hun]
      show (leastL covB (rising [])).map scp = []
      rw [rising_nil]
      rfl
    refine FnOK.ttree SM2_ok mixed Tryz.func11 some11 (loops_one one6 (hC [] ho)) (meN us bs [] 0 (fun vals h => vals = [fz ⟨bs⟩, .slice none 0 0, fz ⟨us⟩, .int .i64 (us.length : Int), .int .i64 0] ∧ h = h0) (fun v => v = .tuple ⟨[fz ⟨meetV us bs⟩, .int .i64 0]⟩)) ?_
    refine need_mk ut (need_mk bt ⟨⟨rfl, rfl⟩, ?_⟩)
    rw [hm]
    rfl
  | cons k q =>
    rw [ho] at hun hlen
    have hch := chunk_str (k :: q)
    have hin : ∀ x ∈ (k :: q).map (fun s => s.data.toList), x ∈ nineL := by
      rw [hun]
      intro x hx
      obtain ⟨a, ha, b, hb2, hk⟩ := mem_meet.1 hx
      rcases hk with ⟨_, rfl⟩ | ⟨_, _, rfl⟩
      · exact (nineR_ok bn).2.1 _ hb2
      · exact (nineR_ok un).2.1 _ ha
    have hle : leastV ((k :: q).map Value.string) = meetV us bs := by
      unfold leastV meetV meetR
      rw [← hun, str_scp, un_map]
    refine FnOK.ttree SM2_ok mixed Tryz.func11 some11 (loops_one one6 (thenLS_ok (hC (k :: q) ho) (freezeG_ok 0 Tryz.prog 55 false 1 [7]))) (meB us bs ((k :: q).map Value.string) (k :: q).length (fun vals h => vals = [fz ⟨bs⟩, .slice none 0 0, fz ⟨us⟩, .int .i64 (us.length : Int), .int .i64 0] ∧ h = h0) (fun v => v = .tuple ⟨[fz ⟨meetV us bs⟩, .int .i64 0]⟩)) ?_
    refine need_mk ut (need_mk bt ⟨⟨rfl, rfl⟩, need_mk ?_ ?_⟩)
    · have a1 : allS (sameSl 0 (k :: q).length (k :: q).length) (stOf 55 [7] [Value.slice (some ⟨0, 0, none⟩) (k :: q).length (k :: q).length]) [7] = true := by
        show (sameSl 0 (k :: q).length (k :: q).length (Value.slice (some ⟨0, 0, none⟩) (k :: q).length (k :: q).length) && true) = true
        simp [sameSl]
      have a2 : ((k :: q).map Value.string).all p1 = true := by
        rw [List.all_eq_true]
        intro v hv
        obtain ⟨s, _, rfl⟩ := List.mem_map.1 hv
        rfl
      rw [a1, show (Array.mk ((k :: q).map Value.string)).toList.all p1 = true from a2]
      simp
    · rw [show (Array.mk ((k :: q).map Value.string)).toList = (k :: q).map Value.string from rfl, hch, hle]
      have hml : (meetV us bs).length ≤ 16 := by
        rw [← hle]
        unfold leastV leastR
        rw [List.length_map]
        refine Nat.le_trans (List.length_filter_le _ _) ?_
        have := cut_le (srt (((k :: q).map Value.string).map unS))
        rw [srt_len] at this
        have e2 : (((k :: q).map Value.string).map unS).length = (k :: q).length := by simp
        have e3 : (rising (((k :: q).map Value.string).map unS)).length = (Go.Lib.compact (srt (((k :: q).map Value.string).map unS))).length := rfl
        omega
      refine need_mk ?_ (pick_f ?_ rfl)
      · rw [str_scp, nineR_mk hin (by simp at hlen ⊢; omega)]
        simp
      · have h5 : ¬ (((Array.mk (meetV us bs)).size : Int) > 50) := by show ¬ (((meetV us bs).length : Int) > 50); omega
        exact decide_eq_false h5
def spMe (f : FuncId) (args : Array Value) (h : AH) : Option (Bool × Value × AH) :=
  cond (Nat.beq f 11) (match args with
    | ⟨[.func (.yield 0) ⟨us⟩ ⟨[]⟩, .func (.yield 0) ⟨bs⟩ ⟨[]⟩]⟩ => some (fourR us && fourR bs, .tuple ⟨[fz ⟨meetV us bs⟩, .int .i64 0]⟩, h)
    | _ => none) none
theorem spMe_ok : SpOK spMe := by
  intro f args h v h' hs
  unfold spMe at hs
  obtain ⟨hf, hs2⟩ := cond_some hs
  clear hs
  have := Nat.eq_of_beq_eq_true hf
  subst this
  split at hs2
  · injection hs2 with hs
    injection hs with hb hs
    injection hs with hv hh
    subst hv hh
    rw [Bool.and_eq_true] at hb
    exact ⟨FnOK.pure (me_fn hb.1 hb.2) rfl rfl h, Nat.le_refl _⟩
  · cases hs2

def SM3 : SC := ⟨idn, spOr (spNrm spCk) spLe, true, true⟩
theorem SM3_ok : SM3.cfg.OK Tryz.prog := (spCk_ok.nrm.or spLe_ok).cfg
theorem lsf (vs : List Value) (Q : Value → Prop) : ffn Tryz.prog SM3 [] 1000 [] Tryz.f9 [fz ⟨vs⟩] h0 (fun v _ => Q v) =
    cond (tenR vs) (cond (nineR vs && Nat.ble 1 vs.length) (Q (.tuple ⟨[fz ⟨leastV vs⟩, .int .i64 0]⟩)) False) False := by kernel_rfl
theorem lsn (c : Nat) (Q : Value → Prop) : ffn Tryz.prog SM3 [] 1000 [] Tryz.f9 [.slice none 0 c] h0 (fun v _ => Q v) = Q (.tuple ⟨[fz ⟨[]⟩, .int .i64 0]⟩) := by kernel_rfl
theorem ls_fn {vs : List Value} (hv : nineR vs = true) (h1 : Nat.ble 1 vs.length = true) : FnOK 0 Tryz.prog 9 ⟨[fz ⟨vs⟩]⟩ h0 (fun v _ => v = .tuple ⟨[fz ⟨leastV vs⟩, .int .i64 0]⟩) :=
  FnOK.ftree SM3_ok mixed Tryz.func9 some9 (lsf vs (fun v => v = .tuple ⟨[fz ⟨leastV vs⟩, .int .i64 0]⟩)) (need_mk (nineR_ten hv) (need_mk (by rw [hv, h1]; rfl) rfl))
theorem ls_nil (c : Nat) : FnOK 0 Tryz.prog 9 ⟨[.slice none 0 c]⟩ h0 (fun v _ => v = .tuple ⟨[fz ⟨[]⟩, .int .i64 0]⟩) :=
  FnOK.ftree SM3_ok mixed Tryz.func9 some9 (lsn c (fun v => v = .tuple ⟨[fz ⟨[]⟩, .int .i64 0]⟩)) rfl
def spLs (f : FuncId) (args : Array Value) (h : AH) : Option (Bool × Value × AH) :=
  cond (Nat.beq f 9) (match args with
    | ⟨[.func (.yield 0) ⟨vs⟩ ⟨[]⟩]⟩ => some (nineR vs && Nat.ble 1 vs.length, .tuple ⟨[fz ⟨leastV vs⟩, .int .i64 0]⟩, h)
    | ⟨[.slice none 0 _]⟩ => some (true, .tuple ⟨[fz ⟨[]⟩, .int .i64 0]⟩, h)
    | _ => none) none
theorem spLs_ok : SpOK spLs := by
  intro f args h v h' hs
  unfold spLs at hs
  obtain ⟨hf, hs2⟩ := cond_some hs
  clear hs
  have := Nat.eq_of_beq_eq_true hf
  subst this
  split at hs2
  · injection hs2 with hs
    injection hs with hb hs
    injection hs with hv hh
    subst hv hh
    rw [Bool.and_eq_true] at hb
    exact ⟨FnOK.pure (ls_fn hb.1 hb.2) rfl rfl h, Nat.le_refl _⟩
  · injection hs2 with hs
    injection hs with hb hs
    injection hs with hv hh
    subst hv hh
    exact ⟨FnOK.pure (ls_nil _) rfl rfl h, Nat.le_refl _⟩
  · cases hs2
end Go.Proofs.YtklednomnpghcaaGreatDoor
