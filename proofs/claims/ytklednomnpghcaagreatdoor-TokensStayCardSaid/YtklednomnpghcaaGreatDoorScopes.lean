/-
  'RightScopes': what it draws from any place of the stream, as a plain list in memory that nobody writes any more.
-/
import Derived.Test.YtklednomnpghcaaGreatDoorBase
namespace Go.Proofs.YtklednomnpghcaaGreatDoor
open Go.Ev Go.RowKit

theorem someRS : Tryz.f5.body.isSome = true := by kernel_rfl
def nine : List Value := [Value.string { data := #[97] }, Value.string { data := #[97, 58, 42] }, Value.string { data := #[97, 58, 98] }, Value.string { data := #[97, 58, 98, 58, 42] }, Value.string { data := #[97, 58, 98, 58, 99] }, Value.string { data := #[98] }, Value.string { data := #[98, 58, 42] }, Value.string { data := #[98, 58, 99] }, Value.string { data := #[42] }]
/-- The scope that is picked. -/
def scV (r : Int) : ByteArray := toStr (nine.getD (0 + r.toNat * 1) (Value.tuple { toList := [] }))
noncomputable def drawnS (xs : Array Value) : Int → Nat → List ByteArray
  | _, 0 => []
  | e, n + 1 => scV (nextR xs e 9) :: drawnS xs (e + 1) n
theorem drawnS_len (xs : Array Value) : ∀ (n : Nat) (e : Int), (drawnS xs e n).length = n
  | 0, _ => rfl
  | n + 1, e => by simp [drawnS, drawnS_len xs n]
theorem in9 (r : Int) (h0 : 0 ≤ r) (h1 : r < 9) : (decide (0 ≤ r) && decide (r < 9)) = true := by simp [h0, h1]
theorem blt9 (r : Int) (h0 : 0 ≤ r) (h1 : r < 9) : (0 + r.toNat * 1).blt 9 = true := by
  rw [Nat.blt, Nat.ble_eq]; omega
theorem rsc0 (xs : Array Value) (d : Int) (Q : Value → Option Obj → Option Obj → Prop) : (ffn Tryz.prog SI [(7, false)] 1000 [] Tryz.f5 [.pointer (some ⟨0, 0, none⟩)] (h1 (strm xs d)) (fun v h => Q v (h.get 0) (h.get (blkOf v)))) =
    bif decide (0 ≤ d) && decide (d ≤ 1000000) && true && true && true && allInts xs then
      bif decide (0 < IntKind.i64.wrap (0 + nextR xs d 5)) then False
      else
        Q (Value.slice none 0 0)
          (some
            (Obj.cells { toList := [Value.func (Fn.yield 0) xs { toList := [] }, Value.int IntKind.i64 (d + 1)] } 25
              (0, 0)))
          (some
            (Obj.cells { toList := [Value.func (Fn.yield 0) xs { toList := [] }, Value.int IntKind.i64 (d + 1)] } 25
              (0, 0)))
    else False := by kernel_rfl
theorem rsc1 (xs : Array Value) (d : Int) (Q : Value → Option Obj → Option Obj → Prop) : (ffn Tryz.prog SI [(7, true), (8, false)] 1000 [] Tryz.f5 [.pointer (some ⟨0, 0, none⟩)] (h1 (strm xs d)) (fun v h => Q v (h.get 0) (h.get (blkOf v)))) =
    bif decide (0 ≤ d) && decide (d ≤ 1000000) && true && true && true && allInts xs then
      bif decide (0 < IntKind.i64.wrap (0 + nextR xs d 5)) then
        bif decide (0 ≤ d + 1) && decide (d + 1 ≤ 1000000) && true && true && true && allInts xs then
          bif decide (0 ≤ nextR xs (d + 1) 9) && decide (nextR xs (d + 1) 9 < 9) then
            bif (0 + (nextR xs (d + 1) 9).toNat * 1).blt 9 then
              bif decide (1 < IntKind.i64.wrap (0 + nextR xs d 5)) then False
              else
                Q (Value.slice (some { block := 3, off := 0 }) 1 1)
                  (some
                    (Obj.cells
                      { toList := [Value.func (Fn.yield 0) xs { toList := [] }, Value.int IntKind.i64 (d + 1 + 1)] } 25
                      (0, 0)))
                  (some
                    (Obj.cells
                      {
                        toList :=
                          [Value.string
                              (toStr
                                ([Value.string { data := #[97] }, Value.string { data := #[97, 58, 42] },
                                      Value.string { data := #[97, 58, 98] },
                                      Value.string { data := #[97, 58, 98, 58, 42] },
                                      Value.string { data := #[97, 58, 98, 58, 99] }, Value.string { data := #[98] },
                                      Value.string { data := #[98, 58, 42] }, Value.string { data := #[98, 58, 99] },
                                      Value.string { data := #[42] }].getD
                                  (0 + (nextR xs (d + 1) 9).toNat * 1)
                                  (Value.tuple { toList := [] })))] }
                      9 (0, 0)))
            else False
          else False
        else False
      else False
    else False := by kernel_rfl
theorem rsc2 (xs : Array Value) (d : Int) (Q : Value → Option Obj → Option Obj → Prop) : (ffn Tryz.prog SI [(7, true), (8, true), (9, false)] 1000 [] Tryz.f5 [.pointer (some ⟨0, 0, none⟩)] (h1 (strm xs d)) (fun v h => Q v (h.get 0) (h.get (blkOf v)))) =
    bif decide (0 ≤ d) && decide (d ≤ 1000000) && true && true && true && allInts xs then
      bif decide (0 < IntKind.i64.wrap (0 + nextR xs d 5)) then
        bif decide (0 ≤ d + 1) && decide (d + 1 ≤ 1000000) && true && true && true && allInts xs then
          bif decide (0 ≤ nextR xs (d + 1) 9) && decide (nextR xs (d + 1) 9 < 9) then
            bif (0 + (nextR xs (d + 1) 9).toNat * 1).blt 9 then
              bif decide (1 < IntKind.i64.wrap (0 + nextR xs d 5)) then
                bif decide (0 ≤ d + 1 + 1) && decide (d + 1 + 1 ≤ 1000000) && true && true && true && allInts xs then
                  bif decide (0 ≤ nextR xs (d + 1 + 1) 9) && decide (nextR xs (d + 1 + 1) 9 < 9) then
                    bif (0 + (nextR xs (d + 1 + 1) 9).toNat * 1).blt 9 then
                      bif decide (2 < IntKind.i64.wrap (0 + nextR xs d 5)) then False
                      else
                        Q (Value.slice (some { block := 6, off := 0 }) 2 2)
                          (some
                            (Obj.cells
                              {
                                toList :=
                                  [Value.func (Fn.yield 0) xs { toList := [] }, Value.int IntKind.i64 (d + 1 + 1 + 1)] }
                              25 (0, 0)))
                          (some
                            (Obj.cells
                              {
                                toList :=
                                  [Value.string
                                      (toStr
                                        ([Value.string { data := #[97] }, Value.string { data := #[97, 58, 42] },
                                              Value.string { data := #[97, 58, 98] },
                                              Value.string { data := #[97, 58, 98, 58, 42] },
                                              Value.string { data := #[97, 58, 98, 58, 99] },
                                              Value.string { data := #[98] }, Value.string { data := #[98, 58, 42] },
                                              Value.string { data := #[98, 58, 99] }, Value.string { data := #[42] }].getD
                                          (0 + (nextR xs (d + 1) 9).toNat * 1)
                                          (Value.tuple { toList := [] }))),
                                    Value.string
                                      (toStr
                                        ([Value.string { data := #[97] }, Value.string { data := #[97, 58, 42] },
                                              Value.string { data := #[97, 58, 98] },
                                              Value.string { data := #[97, 58, 98, 58, 42] },
                                              Value.string { data := #[97, 58, 98, 58, 99] },
                                              Value.string { data := #[98] }, Value.string { data := #[98, 58, 42] },
                                              Value.string { data := #[98, 58, 99] }, Value.string { data := #[42] }].getD
                                          (0 + (nextR xs (d + 1 + 1) 9).toNat * 1)
                                          (Value.tuple { toList := [] })))] }
                              9 (0, 0)))
                    else False
                  else False
                else False
              else False
            else False
          else False
        else False
      else False
    else False := by kernel_rfl
theorem rsc3 (xs : Array Value) (d : Int) (Q : Value → Option Obj → Option Obj → Prop) : (ffn Tryz.prog SI [(7, true), (8, true), (9, true), (10, false)] 1000 [] Tryz.f5 [.pointer (some ⟨0, 0, none⟩)] (h1 (strm xs d)) (fun v h => Q v (h.get 0) (h.get (blkOf v)))) =
    bif decide (0 ≤ d) && decide (d ≤ 1000000) && true && true && true && allInts xs then
      bif decide (0 < IntKind.i64.wrap (0 + nextR xs d 5)) then
        bif decide (0 ≤ d + 1) && decide (d + 1 ≤ 1000000) && true && true && true && allInts xs then
          bif decide (0 ≤ nextR xs (d + 1) 9) && decide (nextR xs (d + 1) 9 < 9) then
            bif (0 + (nextR xs (d + 1) 9).toNat * 1).blt 9 then
              bif decide (1 < IntKind.i64.wrap (0 + nextR xs d 5)) then
                bif decide (0 ≤ d + 1 + 1) && decide (d + 1 + 1 ≤ 1000000) && true && true && true && allInts xs then
                  bif decide (0 ≤ nextR xs (d + 1 + 1) 9) && decide (nextR xs (d + 1 + 1) 9 < 9) then
                    bif (0 + (nextR xs (d + 1 + 1) 9).toNat * 1).blt 9 then
                      bif decide (2 < IntKind.i64.wrap (0 + nextR xs d 5)) then
                        bif
                            decide (0 ≤ d + 1 + 1 + 1) && decide (d + 1 + 1 + 1 ≤ 1000000) && true && true && true &&
                              allInts xs then
                          bif decide (0 ≤ nextR xs (d + 1 + 1 + 1) 9) && decide (nextR xs (d + 1 + 1 + 1) 9 < 9) then
                            bif (0 + (nextR xs (d + 1 + 1 + 1) 9).toNat * 1).blt 9 then
                              bif decide (3 < IntKind.i64.wrap (0 + nextR xs d 5)) then False
                              else
                                Q (Value.slice (some { block := 9, off := 0 }) 3 3)
                                  (some
                                    (Obj.cells
                                      {
                                        toList :=
                                          [Value.func (Fn.yield 0) xs { toList := [] },
                                            Value.int IntKind.i64 (d + 1 + 1 + 1 + 1)] }
                                      25 (0, 0)))
                                  (some
                                    (Obj.cells
                                      {
                                        toList :=
                                          [Value.string
                                              (toStr
                                                ([Value.string { data := #[97] }, Value.string { data := #[97, 58, 42] },
                                                      Value.string { data := #[97, 58, 98] },
                                                      Value.string { data := #[97, 58, 98, 58, 42] },
                                                      Value.string { data := #[97, 58, 98, 58, 99] },
                                                      Value.string { data := #[98] },
                                                      Value.string { data := #[98, 58, 42] },
                                                      Value.string { data := #[98, 58, 99] },
                                                      Value.string { data := #[42] }].getD
                                                  (0 + (nextR xs (d + 1) 9).toNat * 1)
                                                  (Value.tuple { toList := [] }))),
                                            Value.string
                                              (toStr
                                                ([Value.string { data := #[97] }, Value.string { data := #[97, 58, 42] },
                                                      Value.string { data := #[97, 58, 98] },
                                                      Value.string { data := #[97, 58, 98, 58, 42] },
                                                      Value.string { data := #[97, 58, 98, 58, 99] },
                                                      Value.string { data := #[98] },
                                                      Value.string { data := #[98, 58, 42] },
                                                      Value.string { data := #[98, 58, 99] },
                                                      Value.string { data := #[42] }].getD
                                                  (0 + (nextR xs (d + 1 + 1) 9).toNat * 1)
                                                  (Value.tuple { toList := [] }))),
                                            Value.string
                                              (toStr
                                                ([Value.string { data := #[97] }, Value.string { data := #[97, 58, 42] },
                                                      Value.string { data := #[97, 58, 98] },
                                                      Value.string { data := #[97, 58, 98, 58, 42] },
                                                      Value.string { data := #[97, 58, 98, 58, 99] },
                                                      Value.string { data := #[98] },
                                                      Value.string { data := #[98, 58, 42] },
                                                      Value.string { data := #[98, 58, 99] },
                                                      Value.string { data := #[42] }].getD
                                                  (0 + (nextR xs (d + 1 + 1 + 1) 9).toNat * 1)
                                                  (Value.tuple { toList := [] })))] }
                                      9 (0, 0)))
                            else False
                          else False
                        else False
                      else False
                    else False
                  else False
                else False
              else False
            else False
          else False
        else False
      else False
    else False := by kernel_rfl
theorem rsc4 (xs : Array Value) (d : Int) (Q : Value → Option Obj → Option Obj → Prop) : (ffn Tryz.prog SI [(7, true), (8, true), (9, true), (10, true), (11, false)] 1000 [] Tryz.f5 [.pointer (some ⟨0, 0, none⟩)] (h1 (strm xs d)) (fun v h => Q v (h.get 0) (h.get (blkOf v)))) =
    bif decide (0 ≤ d) && decide (d ≤ 1000000) && true && true && true && allInts xs then
      bif decide (0 < IntKind.i64.wrap (0 + nextR xs d 5)) then
        bif decide (0 ≤ d + 1) && decide (d + 1 ≤ 1000000) && true && true && true && allInts xs then
          bif decide (0 ≤ nextR xs (d + 1) 9) && decide (nextR xs (d + 1) 9 < 9) then
            bif (0 + (nextR xs (d + 1) 9).toNat * 1).blt 9 then
              bif decide (1 < IntKind.i64.wrap (0 + nextR xs d 5)) then
                bif decide (0 ≤ d + 1 + 1) && decide (d + 1 + 1 ≤ 1000000) && true && true && true && allInts xs then
                  bif decide (0 ≤ nextR xs (d + 1 + 1) 9) && decide (nextR xs (d + 1 + 1) 9 < 9) then
                    bif (0 + (nextR xs (d + 1 + 1) 9).toNat * 1).blt 9 then
                      bif decide (2 < IntKind.i64.wrap (0 + nextR xs d 5)) then
                        bif
                            decide (0 ≤ d + 1 + 1 + 1) && decide (d + 1 + 1 + 1 ≤ 1000000) && true && true && true &&
                              allInts xs then
                          bif decide (0 ≤ nextR xs (d + 1 + 1 + 1) 9) && decide (nextR xs (d + 1 + 1 + 1) 9 < 9) then
                            bif (0 + (nextR xs (d + 1 + 1 + 1) 9).toNat * 1).blt 9 then
                              bif decide (3 < IntKind.i64.wrap (0 + nextR xs d 5)) then
                                bif
                                    decide (0 ≤ d + 1 + 1 + 1 + 1) && decide (d + 1 + 1 + 1 + 1 ≤ 1000000) && true &&
                                          true &&
                                        true &&
                                      allInts xs then
                                  bif
                                      decide (0 ≤ nextR xs (d + 1 + 1 + 1 + 1) 9) &&
                                        decide (nextR xs (d + 1 + 1 + 1 + 1) 9 < 9) then
                                    bif (0 + (nextR xs (d + 1 + 1 + 1 + 1) 9).toNat * 1).blt 9 then
                                      bif decide (4 < IntKind.i64.wrap (0 + nextR xs d 5)) then False
                                      else
                                        Q (Value.slice (some { block := 12, off := 0 }) 4 4)
                                          (some
                                            (Obj.cells
                                              {
                                                toList :=
                                                  [Value.func (Fn.yield 0) xs { toList := [] },
                                                    Value.int IntKind.i64 (d + 1 + 1 + 1 + 1 + 1)] }
                                              25 (0, 0)))
                                          (some
                                            (Obj.cells
                                              {
                                                toList :=
                                                  [Value.string
                                                      (toStr
                                                        ([Value.string { data := #[97] },
                                                              Value.string { data := #[97, 58, 42] },
                                                              Value.string { data := #[97, 58, 98] },
                                                              Value.string { data := #[97, 58, 98, 58, 42] },
                                                              Value.string { data := #[97, 58, 98, 58, 99] },
                                                              Value.string { data := #[98] },
                                                              Value.string { data := #[98, 58, 42] },
                                                              Value.string { data := #[98, 58, 99] },
                                                              Value.string { data := #[42] }].getD
                                                          (0 + (nextR xs (d + 1) 9).toNat * 1)
                                                          (Value.tuple { toList := [] }))),
                                                    Value.string
                                                      (toStr
                                                        ([Value.string { data := #[97] },
                                                              Value.string { data := #[97, 58, 42] },
                                                              Value.string { data := #[97, 58, 98] },
                                                              Value.string { data := #[97, 58, 98, 58, 42] },
                                                              Value.string { data := #[97, 58, 98, 58, 99] },
                                                              Value.string { data := #[98] },
                                                              Value.string { data := #[98, 58, 42] },
                                                              Value.string { data := #[98, 58, 99] },
                                                              Value.string { data := #[42] }].getD
                                                          (0 + (nextR xs (d + 1 + 1) 9).toNat * 1)
                                                          (Value.tuple { toList := [] }))),
                                                    Value.string
                                                      (toStr
                                                        ([Value.string { data := #[97] },
                                                              Value.string { data := #[97, 58, 42] },
                                                              Value.string { data := #[97, 58, 98] },
                                                              Value.string { data := #[97, 58, 98, 58, 42] },
                                                              Value.string { data := #[97, 58, 98, 58, 99] },
                                                              Value.string { data := #[98] },
                                                              Value.string { data := #[98, 58, 42] },
                                                              Value.string { data := #[98, 58, 99] },
                                                              Value.string { data := #[42] }].getD
                                                          (0 +
                                                            (nextR xs (d + 1 + 1 + 1) 9).toNat * 1)
                                                          (Value.tuple { toList := [] }))),
                                                    Value.string
                                                      (toStr
                                                        ([Value.string { data := #[97] },
                                                              Value.string { data := #[97, 58, 42] },
                                                              Value.string { data := #[97, 58, 98] },
                                                              Value.string { data := #[97, 58, 98, 58, 42] },
                                                              Value.string { data := #[97, 58, 98, 58, 99] },
                                                              Value.string { data := #[98] },
                                                              Value.string { data := #[98, 58, 42] },
                                                              Value.string { data := #[98, 58, 99] },
                                                              Value.string { data := #[42] }].getD
                                                          (0 +
                                                            (nextR xs (d + 1 + 1 + 1 + 1) 9).toNat *
                                                              1)
                                                          (Value.tuple { toList := [] })))] }
                                              9 (0, 0)))
                                    else False
                                  else False
                                else False
                              else False
                            else False
                          else False
                        else False
                      else False
                    else False
                  else False
                else False
              else False
            else False
          else False
        else False
      else False
    else False := by kernel_rfl
theorem scopes0 (zs : List Int) (d : Int) (h0 : 0 ≤ d) (h1 : d ≤ 100000) (hn : nextR (intsV zs) d 5 = 0) : FnOK 1 Tryz.prog 5 ⟨[.pointer (some ⟨0, 0, none⟩)]⟩ (Ev.h1 (strm (intsV zs) d)) (fun u g => u = .slice none 0 0 ∧ g.get 0 = some (strm (intsV zs) (d + 1))) := by
  refine (FnOK.ftree (p := 1) SI_ok mixed Tryz.func5 someRS (rsc0 (intsV zs) d (fun v o _ => v = .slice none 0 0 ∧ o = some (strm (intsV zs) (d + 1)))) ?_).mono ?_
  · exact need_mk (by rw [allInts_intsV]; simp; omega) (cut_mk (by rw [hn]; rfl) (⟨rfl, rfl⟩))
  · rintro v g ⟨q1, q2⟩
    exact ⟨q1, q2⟩
theorem scopes1 (zs : List Int) (d : Int) (h0 : 0 ≤ d) (h1 : d ≤ 100000) (hn : nextR (intsV zs) d 5 = 1) : FnOK 1 Tryz.prog 5 ⟨[.pointer (some ⟨0, 0, none⟩)]⟩ (Ev.h1 (strm (intsV zs) d)) (fun u g => u = fz ⟨(drawnS (intsV zs) (d + 1) 1).map Value.string⟩ ∧ g.get 0 = some (strm (intsV zs) (d + 1 + 1))) := by
  have b0 := (nextR_spec zs 9 (d + 1) (by omega) (by omega) (by omega) (by omega)).1
  refine FnOK.weak1 ((FnOK.ftree (p := 1) SI_ok mixed Tryz.func5 someRS (rsc1 (intsV zs) d (fun v o q => v = .slice (some ⟨3, 0, none⟩) 1 1 ∧ o = some (strm (intsV zs) (d + 1 + 1)) ∧ q = some (.cells ⟨(drawnS (intsV zs) (d + 1) 1).map Value.string⟩ 9 (0, 0)))) ?_).mono ?_)
  · exact need_mk (by rw [allInts_intsV]; simp; omega) (need_mk (by rw [hn]; rfl) (need_mk (by rw [allInts_intsV]; simp; omega) (need_mk (in9 _ b0.1 b0.2) (need_mk (blt9 _ b0.1 b0.2) (cut_mk (by rw [hn]; rfl) (⟨rfl, rfl, rfl⟩))))))
  · rintro v g ⟨rfl, q0, hb⟩
    exact ⟨_, _, freeze1 _ (drawnS_len _ _ _) hb, rfl, (del_ne (i := 0) (b := 3) (by decide)).trans q0⟩
theorem scopes2 (zs : List Int) (d : Int) (h0 : 0 ≤ d) (h1 : d ≤ 100000) (hn : nextR (intsV zs) d 5 = 2) : FnOK 1 Tryz.prog 5 ⟨[.pointer (some ⟨0, 0, none⟩)]⟩ (Ev.h1 (strm (intsV zs) d)) (fun u g => u = fz ⟨(drawnS (intsV zs) (d + 1) 2).map Value.string⟩ ∧ g.get 0 = some (strm (intsV zs) (d + 1 + 1 + 1))) := by
  have b0 := (nextR_spec zs 9 (d + 1) (by omega) (by omega) (by omega) (by omega)).1
  have b1 := (nextR_spec zs 9 (d + 1 + 1) (by omega) (by omega) (by omega) (by omega)).1
  refine FnOK.weak1 ((FnOK.ftree (p := 1) SI_ok mixed Tryz.func5 someRS (rsc2 (intsV zs) d (fun v o q => v = .slice (some ⟨6, 0, none⟩) 2 2 ∧ o = some (strm (intsV zs) (d + 1 + 1 + 1)) ∧ q = some (.cells ⟨(drawnS (intsV zs) (d + 1) 2).map Value.string⟩ 9 (0, 0)))) ?_).mono ?_)
  · exact need_mk (by rw [allInts_intsV]; simp; omega) (need_mk (by rw [hn]; rfl) (need_mk (by rw [allInts_intsV]; simp; omega) (need_mk (in9 _ b0.1 b0.2) (need_mk (blt9 _ b0.1 b0.2) (need_mk (by rw [hn]; rfl) (need_mk (by rw [allInts_intsV]; simp; omega) (need_mk (in9 _ b1.1 b1.2) (need_mk (blt9 _ b1.1 b1.2) (cut_mk (by rw [hn]; rfl) (⟨rfl, rfl, rfl⟩))))))))))
  · rintro v g ⟨rfl, q0, hb⟩
    exact ⟨_, _, freeze1 _ (drawnS_len _ _ _) hb, rfl, (del_ne (i := 0) (b := 6) (by decide)).trans q0⟩
theorem scopes3 (zs : List Int) (d : Int) (h0 : 0 ≤ d) (h1 : d ≤ 100000) (hn : nextR (intsV zs) d 5 = 3) : FnOK 1 Tryz.prog 5 ⟨[.pointer (some ⟨0, 0, none⟩)]⟩ (Ev.h1 (strm (intsV zs) d)) (fun u g => u = fz ⟨(drawnS (intsV zs) (d + 1) 3).map Value.string⟩ ∧ g.get 0 = some (strm (intsV zs) (d + 1 + 1 + 1 + 1))) := by
  have b0 := (nextR_spec zs 9 (d + 1) (by omega) (by omega) (by omega) (by omega)).1
  have b1 := (nextR_spec zs 9 (d + 1 + 1) (by omega) (by omega) (by omega) (by omega)).1
  have b2 := (nextR_spec zs 9 (d + 1 + 1 + 1) (by omega) (by omega) (by omega) (by omega)).1
  refine FnOK.weak1 ((FnOK.ftree (p := 1) SI_ok mixed Tryz.func5 someRS (rsc3 (intsV zs) d (fun v o q => v = .slice (some ⟨9, 0, none⟩) 3 3 ∧ o = some (strm (intsV zs) (d + 1 + 1 + 1 + 1)) ∧ q = some (.cells ⟨(drawnS (intsV zs) (d + 1) 3).map Value.string⟩ 9 (0, 0)))) ?_).mono ?_)
  · exact need_mk (by rw [allInts_intsV]; simp; omega) (need_mk (by rw [hn]; rfl) (need_mk (by rw [allInts_intsV]; simp; omega) (need_mk (in9 _ b0.1 b0.2) (need_mk (blt9 _ b0.1 b0.2) (need_mk (by rw [hn]; rfl) (need_mk (by rw [allInts_intsV]; simp; omega) (need_mk (in9 _ b1.1 b1.2) (need_mk (blt9 _ b1.1 b1.2) (need_mk (by rw [hn]; rfl) (need_mk (by rw [allInts_intsV]; simp; omega) (need_mk (in9 _ b2.1 b2.2) (need_mk (blt9 _ b2.1 b2.2) (cut_mk (by rw [hn]; rfl) (⟨rfl, rfl, rfl⟩))))))))))))))
  · rintro v g ⟨rfl, q0, hb⟩
    exact ⟨_, _, freeze1 _ (drawnS_len _ _ _) hb, rfl, (del_ne (i := 0) (b := 9) (by decide)).trans q0⟩
theorem scopes4 (zs : List Int) (d : Int) (h0 : 0 ≤ d) (h1 : d ≤ 100000) (hn : nextR (intsV zs) d 5 = 4) : FnOK 1 Tryz.prog 5 ⟨[.pointer (some ⟨0, 0, none⟩)]⟩ (Ev.h1 (strm (intsV zs) d)) (fun u g => u = fz ⟨(drawnS (intsV zs) (d + 1) 4).map Value.string⟩ ∧ g.get 0 = some (strm (intsV zs) (d + 1 + 1 + 1 + 1 + 1))) := by
  have b0 := (nextR_spec zs 9 (d + 1) (by omega) (by omega) (by omega) (by omega)).1
  have b1 := (nextR_spec zs 9 (d + 1 + 1) (by omega) (by omega) (by omega) (by omega)).1
  have b2 := (nextR_spec zs 9 (d + 1 + 1 + 1) (by omega) (by omega) (by omega) (by omega)).1
  have b3 := (nextR_spec zs 9 (d + 1 + 1 + 1 + 1) (by omega) (by omega) (by omega) (by omega)).1
  refine FnOK.weak1 ((FnOK.ftree (p := 1) SI_ok mixed Tryz.func5 someRS (rsc4 (intsV zs) d (fun v o q => v = .slice (some ⟨12, 0, none⟩) 4 4 ∧ o = some (strm (intsV zs) (d + 1 + 1 + 1 + 1 + 1)) ∧ q = some (.cells ⟨(drawnS (intsV zs) (d + 1) 4).map Value.string⟩ 9 (0, 0)))) ?_).mono ?_)
  · exact need_mk (by rw [allInts_intsV]; simp; omega) (need_mk (by rw [hn]; rfl) (need_mk (by rw [allInts_intsV]; simp; omega) (need_mk (in9 _ b0.1 b0.2) (need_mk (blt9 _ b0.1 b0.2) (need_mk (by rw [hn]; rfl) (need_mk (by rw [allInts_intsV]; simp; omega) (need_mk (in9 _ b1.1 b1.2) (need_mk (blt9 _ b1.1 b1.2) (need_mk (by rw [hn]; rfl) (need_mk (by rw [allInts_intsV]; simp; omega) (need_mk (in9 _ b2.1 b2.2) (need_mk (blt9 _ b2.1 b2.2) (need_mk (by rw [hn]; rfl) (need_mk (by rw [allInts_intsV]; simp; omega) (need_mk (in9 _ b3.1 b3.2) (need_mk (blt9 _ b3.1 b3.2) (cut_mk (by rw [hn]; rfl) (⟨rfl, rfl, rfl⟩))))))))))))))))))
  · rintro v g ⟨rfl, q0, hb⟩
    exact ⟨_, _, freeze1 _ (drawnS_len _ _ _) hb, rfl, (del_ne (i := 0) (b := 12) (by decide)).trans q0⟩
end Go.Proofs.YtklednomnpghcaaGreatDoor
