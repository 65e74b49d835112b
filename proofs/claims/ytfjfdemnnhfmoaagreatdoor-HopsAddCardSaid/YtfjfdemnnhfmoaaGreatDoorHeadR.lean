/-
  'RightHeaders': what it draws from any place of the stream, as a plain list in memory that nobody writes any more.
-/
import Derived.Test.YtfjfdemnnhfmoaaGreatDoorHeadD
namespace Go.Proofs.YtfjfdemnnhfmoaaGreatDoor
open Go.Ev Go.RowKit

theorem someRH : Tryz.f58.body.isSome = true := by kernel_rfl
/-- The name, and the value, that is picked. -/
def nmV (r : Int) : ByteArray := toStr ([Value.string ⟨#[97, 99, 99, 101, 112, 116]⟩, Value.string ⟨#[65, 99, 99, 101, 112, 116]⟩, Value.string ⟨#[120, 45, 111, 110, 101]⟩, Value.string ⟨#[88, 45, 84, 119, 111]⟩, Value.string ⟨#[99, 111, 111, 107, 105, 101]⟩, Value.string ⟨#[118, 97, 114, 121]⟩, Value.string ⟨#[99, 111, 110, 110, 101, 99, 116, 105, 111, 110]⟩, Value.string ⟨#[120, 45, 102, 111, 114, 119, 97, 114, 100, 101, 100, 45, 102, 111, 114]⟩, Value.string ⟨#[118, 105, 97]⟩, Value.string ⟨#[120, 45, 102, 111, 114, 119, 97, 114, 100, 101, 100, 45, 104, 111, 115, 116]⟩, Value.string ⟨#[116, 101]⟩].getD (0 + r.toNat * 1) (Value.tuple { toList := [] }))
def vlV (r : Int) : ByteArray := toStr ([Value.string ⟨#[49]⟩, Value.string ⟨#[120]⟩, Value.string ⟨#[97, 44, 32, 98]⟩, Value.string ⟨#[]⟩, Value.string ⟨#[120, 45, 111, 110, 101, 44, 32, 99, 108, 111, 115, 101]⟩, Value.string ⟨#[103, 119]⟩, Value.string ⟨#[49, 46, 50, 46, 51, 46, 52]⟩, Value.string ⟨#[53, 46, 54, 46, 55, 46, 56, 44, 32, 57, 46, 57, 46, 57, 46, 57]⟩].getD (0 + r.toNat * 1) (Value.tuple { toList := [] }))
noncomputable def drawnH (xs : Array Value) : Int → Nat → List (ByteArray × ByteArray)
  | _, 0 => []
  | e, n + 1 => (nmV (nextR xs e 11), vlV (nextR xs (e + 1) 8)) :: drawnH xs (e + 1 + 1) n
theorem drawnH_len (xs : Array Value) : ∀ (n : Nat) (e : Int), (drawnH xs e n).length = n
  | 0, _ => rfl
  | n + 1, e => by simp [drawnH, drawnH_len xs n]
theorem in11 (r : Int) (h0 : 0 ≤ r) (h1 : r < 11) : (decide (0 ≤ r) && decide (r < 11)) = true := by simp [h0, h1]
theorem blt11 (r : Int) (h0 : 0 ≤ r) (h1 : r < 11) : (0 + r.toNat * 1).blt 11 = true := by
  rw [Nat.blt, Nat.ble_eq]; omega
theorem in8 (r : Int) (h0 : 0 ≤ r) (h1 : r < 8) : (decide (0 ≤ r) && decide (r < 8)) = true := by simp [h0, h1]
theorem blt8 (r : Int) (h0 : 0 ≤ r) (h1 : r < 8) : (0 + r.toNat * 1).blt 8 = true := by
  rw [Nat.blt, Nat.ble_eq]; omega
theorem nmV_in (r : Int) (h0 : 0 ≤ r) (h1 : r < 11) : inU namesU (nmV r) = true := by
  have : r = 0 ∨ r = 1 ∨ r = 2 ∨ r = 3 ∨ r = 4 ∨ r = 5 ∨ r = 6 ∨ r = 7 ∨ r = 8 ∨ r = 9 ∨ r = 10 := by omega
  rcases this with rfl | rfl | rfl | rfl | rfl | rfl | rfl | rfl | rfl | rfl | rfl <;> rfl
theorem vlV_in (r : Int) (h0 : 0 ≤ r) (h1 : r < 8) : okVal (vlV r) = true := by
  have : r = 0 ∨ r = 1 ∨ r = 2 ∨ r = 3 ∨ r = 4 ∨ r = 5 ∨ r = 6 ∨ r = 7 := by omega
  rcases this with rfl | rfl | rfl | rfl | rfl | rfl | rfl | rfl <;> rfl

theorem rh0 (xs : Array Value) (d : Int) (Q : Value → Option Obj → Option Obj → Prop) : (ffn Tryz.prog SI [(7, false)] 2000 [] Tryz.f58 [.pointer (some ⟨0, 0, none⟩), .int .i64 4] (h1 (strm xs d)) (fun v h => Q v (h.get 0) (h.get (blkOf v)))) =
    bif decide (0 ≤ d) && decide (d ≤ 1000000) && true && true && true && allInts xs then
      bif decide (0 < IntKind.i64.wrap (0 + nextR xs d 5)) then False
      else
        Q (Value.slice none 0 0)
          (some
            (Obj.cells { toList := [Value.func (Fn.yield 0) xs { toList := [] }, Value.int IntKind.i64 (d + 1)] } 25
              (0, 0)))
          (some
            (Obj.cells { toList := [Value.func (Fn.yield 0) xs { toList := [] }, Value.int IntKind.i64 (d + 1)] } 25
              (0, 0)))
    else False := by kernel_rfl
theorem rh1 (xs : Array Value) (d : Int) (Q : Value → Option Obj → Option Obj → Prop) : (ffn Tryz.prog SI [(7, true), (8, false)] 2000 [] Tryz.f58 [.pointer (some ⟨0, 0, none⟩), .int .i64 4] (h1 (strm xs d)) (fun v h => Q v (h.get 0) (h.get (blkOf v)))) =
    bif decide (0 ≤ d) && decide (d ≤ 1000000) && true && true && true && allInts xs then
      bif decide (0 < IntKind.i64.wrap (0 + nextR xs d 5)) then
        bif decide (0 ≤ d + 1) && decide (d + 1 ≤ 1000000) && true && true && true && allInts xs then
          bif decide (0 ≤ nextR xs (d + 1) 11) && decide (nextR xs (d + 1) 11 < 11) then
            bif (0 + (nextR xs (d + 1) 11).toNat * 1).blt 11 then
              bif decide (0 ≤ d + 1 + 1) && decide (d + 1 + 1 ≤ 1000000) && true && true && true && allInts xs then
                bif decide (0 ≤ nextR xs (d + 1 + 1) 8) && decide (nextR xs (d + 1 + 1) 8 < 8) then
                  bif (0 + (nextR xs (d + 1 + 1) 8).toNat * 1).blt 8 then
                    bif decide (1 < IntKind.i64.wrap (0 + nextR xs d 5)) then False
                    else
                      Q (Value.slice (some { block := 4, off := 0 }) 1 1)
                        (some
                          (Obj.cells
                            {
                              toList :=
                                [Value.func (Fn.yield 0) xs { toList := [] }, Value.int IntKind.i64 (d + 1 + 1 + 1)] }
                            25 (0, 0)))
                        (some
                          (Obj.cells
                            {
                              toList :=
                                [Value.string
                                    (toStr
                                      ([Value.string { data := #[97, 99, 99, 101, 112, 116] },
                                            Value.string { data := #[65, 99, 99, 101, 112, 116] },
                                            Value.string { data := #[120, 45, 111, 110, 101] },
                                            Value.string { data := #[88, 45, 84, 119, 111] },
                                            Value.string { data := #[99, 111, 111, 107, 105, 101] },
                                            Value.string { data := #[118, 97, 114, 121] },
                                            Value.string { data := #[99, 111, 110, 110, 101, 99, 116, 105, 111, 110] },
                                            Value.string
                                              {
                                                data :=
                                                  #[120, 45, 102, 111, 114, 119, 97, 114, 100, 101, 100, 45, 102, 111,
                                                    114] },
                                            Value.string { data := #[118, 105, 97] },
                                            Value.string
                                              {
                                                data :=
                                                  #[120, 45, 102, 111, 114, 119, 97, 114, 100, 101, 100, 45, 104, 111, 115,
                                                    116] },
                                            Value.string { data := #[116, 101] }].getD
                                        (0 + (nextR xs (d + 1) 11).toNat * 1)
                                        (Value.tuple { toList := [] }))),
                                  Value.string
                                    (toStr
                                      ([Value.string { data := #[49] }, Value.string { data := #[120] },
                                            Value.string { data := #[97, 44, 32, 98] }, Value.string { data := #[] },
                                            Value.string
                                              { data := #[120, 45, 111, 110, 101, 44, 32, 99, 108, 111, 115, 101] },
                                            Value.string { data := #[103, 119] },
                                            Value.string { data := #[49, 46, 50, 46, 51, 46, 52] },
                                            Value.string
                                              {
                                                data :=
                                                  #[53, 46, 54, 46, 55, 46, 56, 44, 32, 57, 46, 57, 46, 57, 46, 57] }].getD
                                        (0 + (nextR xs (d + 1 + 1) 8).toNat * 1)
                                        (Value.tuple { toList := [] })))] }
                            99 (0, 0)))
                  else False
                else False
              else False
            else False
          else False
        else False
      else False
    else False := by kernel_rfl
theorem rh2 (xs : Array Value) (d : Int) (Q : Value → Option Obj → Option Obj → Prop) : (ffn Tryz.prog SI [(7, true), (8, true), (9, false)] 2000 [] Tryz.f58 [.pointer (some ⟨0, 0, none⟩), .int .i64 4] (h1 (strm xs d)) (fun v h => Q v (h.get 0) (h.get (blkOf v)))) =
    bif decide (0 ≤ d) && decide (d ≤ 1000000) && true && true && true && allInts xs then
      bif decide (0 < IntKind.i64.wrap (0 + nextR xs d 5)) then
        bif decide (0 ≤ d + 1) && decide (d + 1 ≤ 1000000) && true && true && true && allInts xs then
          bif decide (0 ≤ nextR xs (d + 1) 11) && decide (nextR xs (d + 1) 11 < 11) then
            bif (0 + (nextR xs (d + 1) 11).toNat * 1).blt 11 then
              bif decide (0 ≤ d + 1 + 1) && decide (d + 1 + 1 ≤ 1000000) && true && true && true && allInts xs then
                bif decide (0 ≤ nextR xs (d + 1 + 1) 8) && decide (nextR xs (d + 1 + 1) 8 < 8) then
                  bif (0 + (nextR xs (d + 1 + 1) 8).toNat * 1).blt 8 then
                    bif decide (1 < IntKind.i64.wrap (0 + nextR xs d 5)) then
                      bif
                          decide (0 ≤ d + 1 + 1 + 1) && decide (d + 1 + 1 + 1 ≤ 1000000) && true && true && true &&
                            allInts xs then
                        bif decide (0 ≤ nextR xs (d + 1 + 1 + 1) 11) && decide (nextR xs (d + 1 + 1 + 1) 11 < 11) then
                          bif (0 + (nextR xs (d + 1 + 1 + 1) 11).toNat * 1).blt 11 then
                            bif
                                decide (0 ≤ d + 1 + 1 + 1 + 1) && decide (d + 1 + 1 + 1 + 1 ≤ 1000000) && true && true &&
                                    true &&
                                  allInts xs then
                              bif
                                  decide (0 ≤ nextR xs (d + 1 + 1 + 1 + 1) 8) &&
                                    decide (nextR xs (d + 1 + 1 + 1 + 1) 8 < 8) then
                                bif (0 + (nextR xs (d + 1 + 1 + 1 + 1) 8).toNat * 1).blt 8 then
                                  bif decide (2 < IntKind.i64.wrap (0 + nextR xs d 5)) then False
                                  else
                                    Q (Value.slice (some { block := 8, off := 0 }) 2 2)
                                      (some
                                        (Obj.cells
                                          {
                                            toList :=
                                              [Value.func (Fn.yield 0) xs { toList := [] },
                                                Value.int IntKind.i64 (d + 1 + 1 + 1 + 1 + 1)] }
                                          25 (0, 0)))
                                      (some
                                        (Obj.cells
                                          {
                                            toList :=
                                              [Value.string
                                                  (toStr
                                                    ([Value.string { data := #[97, 99, 99, 101, 112, 116] },
                                                          Value.string { data := #[65, 99, 99, 101, 112, 116] },
                                                          Value.string { data := #[120, 45, 111, 110, 101] },
                                                          Value.string { data := #[88, 45, 84, 119, 111] },
                                                          Value.string { data := #[99, 111, 111, 107, 105, 101] },
                                                          Value.string { data := #[118, 97, 114, 121] },
                                                          Value.string
                                                            { data := #[99, 111, 110, 110, 101, 99, 116, 105, 111, 110] },
                                                          Value.string
                                                            {
                                                              data :=
                                                                #[120, 45, 102, 111, 114, 119, 97, 114, 100, 101, 100, 45,
                                                                  102, 111, 114] },
                                                          Value.string { data := #[118, 105, 97] },
                                                          Value.string
                                                            {
                                                              data :=
                                                                #[120, 45, 102, 111, 114, 119, 97, 114, 100, 101, 100, 45,
                                                                  104, 111, 115, 116] },
                                                          Value.string { data := #[116, 101] }].getD
                                                      (0 + (nextR xs (d + 1) 11).toNat * 1)
                                                      (Value.tuple { toList := [] }))),
                                                Value.string
                                                  (toStr
                                                    ([Value.string { data := #[49] }, Value.string { data := #[120] },
                                                          Value.string { data := #[97, 44, 32, 98] },
                                                          Value.string { data := #[] },
                                                          Value.string
                                                            {
                                                              data :=
                                                                #[120, 45, 111, 110, 101, 44, 32, 99, 108, 111, 115, 101] },
                                                          Value.string { data := #[103, 119] },
                                                          Value.string { data := #[49, 46, 50, 46, 51, 46, 52] },
                                                          Value.string
                                                            {
                                                              data :=
                                                                #[53, 46, 54, 46, 55, 46, 56, 44, 32, 57, 46, 57, 46, 57,
                                                                  46, 57] }].getD
                                                      (0 + (nextR xs (d + 1 + 1) 8).toNat * 1)
                                                      (Value.tuple { toList := [] }))),
                                                Value.string
                                                  (toStr
                                                    ([Value.string { data := #[97, 99, 99, 101, 112, 116] },
                                                          Value.string { data := #[65, 99, 99, 101, 112, 116] },
                                                          Value.string { data := #[120, 45, 111, 110, 101] },
                                                          Value.string { data := #[88, 45, 84, 119, 111] },
                                                          Value.string { data := #[99, 111, 111, 107, 105, 101] },
                                                          Value.string { data := #[118, 97, 114, 121] },
                                                          Value.string
                                                            { data := #[99, 111, 110, 110, 101, 99, 116, 105, 111, 110] },
                                                          Value.string
                                                            {
                                                              data :=
                                                                #[120, 45, 102, 111, 114, 119, 97, 114, 100, 101, 100, 45,
                                                                  102, 111, 114] },
                                                          Value.string { data := #[118, 105, 97] },
                                                          Value.string
                                                            {
                                                              data :=
                                                                #[120, 45, 102, 111, 114, 119, 97, 114, 100, 101, 100, 45,
                                                                  104, 111, 115, 116] },
                                                          Value.string { data := #[116, 101] }].getD
                                                      (0 + (nextR xs (d + 1 + 1 + 1) 11).toNat * 1)
                                                      (Value.tuple { toList := [] }))),
                                                Value.string
                                                  (toStr
                                                    ([Value.string { data := #[49] }, Value.string { data := #[120] },
                                                          Value.string { data := #[97, 44, 32, 98] },
                                                          Value.string { data := #[] },
                                                          Value.string
                                                            {
                                                              data :=
                                                                #[120, 45, 111, 110, 101, 44, 32, 99, 108, 111, 115, 101] },
                                                          Value.string { data := #[103, 119] },
                                                          Value.string { data := #[49, 46, 50, 46, 51, 46, 52] },
                                                          Value.string
                                                            {
                                                              data :=
                                                                #[53, 46, 54, 46, 55, 46, 56, 44, 32, 57, 46, 57, 46, 57,
                                                                  46, 57] }].getD
                                                      (0 +
                                                        (nextR xs (d + 1 + 1 + 1 + 1) 8).toNat * 1)
                                                      (Value.tuple { toList := [] })))] }
                                          99 (0, 0)))
                                else False
                              else False
                            else False
                          else False
                        else False
                      else False
                    else False
                  else False
                else False
              else False
            else False
          else False
        else False
      else False
    else False := by kernel_rfl
theorem rh3 (xs : Array Value) (d : Int) (Q : Value → Option Obj → Option Obj → Prop) : (ffn Tryz.prog SI [(7, true), (8, true), (9, true), (10, false)] 2000 [] Tryz.f58 [.pointer (some ⟨0, 0, none⟩), .int .i64 4] (h1 (strm xs d)) (fun v h => Q v (h.get 0) (h.get (blkOf v)))) =
    bif decide (0 ≤ d) && decide (d ≤ 1000000) && true && true && true && allInts xs then
      bif decide (0 < IntKind.i64.wrap (0 + nextR xs d 5)) then
        bif decide (0 ≤ d + 1) && decide (d + 1 ≤ 1000000) && true && true && true && allInts xs then
          bif decide (0 ≤ nextR xs (d + 1) 11) && decide (nextR xs (d + 1) 11 < 11) then
            bif (0 + (nextR xs (d + 1) 11).toNat * 1).blt 11 then
              bif decide (0 ≤ d + 1 + 1) && decide (d + 1 + 1 ≤ 1000000) && true && true && true && allInts xs then
                bif decide (0 ≤ nextR xs (d + 1 + 1) 8) && decide (nextR xs (d + 1 + 1) 8 < 8) then
                  bif (0 + (nextR xs (d + 1 + 1) 8).toNat * 1).blt 8 then
                    bif decide (1 < IntKind.i64.wrap (0 + nextR xs d 5)) then
                      bif
                          decide (0 ≤ d + 1 + 1 + 1) && decide (d + 1 + 1 + 1 ≤ 1000000) && true && true && true &&
                            allInts xs then
                        bif decide (0 ≤ nextR xs (d + 1 + 1 + 1) 11) && decide (nextR xs (d + 1 + 1 + 1) 11 < 11) then
                          bif (0 + (nextR xs (d + 1 + 1 + 1) 11).toNat * 1).blt 11 then
                            bif
                                decide (0 ≤ d + 1 + 1 + 1 + 1) && decide (d + 1 + 1 + 1 + 1 ≤ 1000000) && true && true &&
                                    true &&
                                  allInts xs then
                              bif
                                  decide (0 ≤ nextR xs (d + 1 + 1 + 1 + 1) 8) &&
                                    decide (nextR xs (d + 1 + 1 + 1 + 1) 8 < 8) then
                                bif (0 + (nextR xs (d + 1 + 1 + 1 + 1) 8).toNat * 1).blt 8 then
                                  bif decide (2 < IntKind.i64.wrap (0 + nextR xs d 5)) then
                                    bif
                                        decide (0 ≤ d + 1 + 1 + 1 + 1 + 1) && decide (d + 1 + 1 + 1 + 1 + 1 ≤ 1000000) &&
                                                true &&
                                              true &&
                                            true &&
                                          allInts xs then
                                      bif
                                          decide (0 ≤ nextR xs (d + 1 + 1 + 1 + 1 + 1) 11) &&
                                            decide (nextR xs (d + 1 + 1 + 1 + 1 + 1) 11 < 11) then
                                        bif (0 + (nextR xs (d + 1 + 1 + 1 + 1 + 1) 11).toNat * 1).blt 11 then
                                          bif
                                              decide (0 ≤ d + 1 + 1 + 1 + 1 + 1 + 1) &&
                                                        decide (d + 1 + 1 + 1 + 1 + 1 + 1 ≤ 1000000) &&
                                                      true &&
                                                    true &&
                                                  true &&
                                                allInts xs then
                                            bif
                                                decide (0 ≤ nextR xs (d + 1 + 1 + 1 + 1 + 1 + 1) 8) &&
                                                  decide (nextR xs (d + 1 + 1 + 1 + 1 + 1 + 1) 8 < 8) then
                                              bif (0 + (nextR xs (d + 1 + 1 + 1 + 1 + 1 + 1) 8).toNat * 1).blt 8 then
                                                bif decide (3 < IntKind.i64.wrap (0 + nextR xs d 5)) then False
                                                else
                                                  Q (Value.slice (some { block := 12, off := 0 }) 3 3)
                                                    (some
                                                      (Obj.cells
                                                        {
                                                          toList :=
                                                            [Value.func (Fn.yield 0) xs { toList := [] },
                                                              Value.int IntKind.i64 (d + 1 + 1 + 1 + 1 + 1 + 1 + 1)] }
                                                        25 (0, 0)))
                                                    (some
                                                      (Obj.cells
                                                        {
                                                          toList :=
                                                            [Value.string
                                                                (toStr
                                                                  ([Value.string { data := #[97, 99, 99, 101, 112, 116] },
                                                                        Value.string
                                                                          { data := #[65, 99, 99, 101, 112, 116] },
                                                                        Value.string { data := #[120, 45, 111, 110, 101] },
                                                                        Value.string { data := #[88, 45, 84, 119, 111] },
                                                                        Value.string
                                                                          { data := #[99, 111, 111, 107, 105, 101] },
                                                                        Value.string { data := #[118, 97, 114, 121] },
                                                                        Value.string
                                                                          {
                                                                            data :=
                                                                              #[99, 111, 110, 110, 101, 99, 116, 105, 111,
                                                                                110] },
                                                                        Value.string
                                                                          {
                                                                            data :=
                                                                              #[120, 45, 102, 111, 114, 119, 97, 114, 100,
                                                                                101, 100, 45, 102, 111, 114] },
                                                                        Value.string { data := #[118, 105, 97] },
                                                                        Value.string
                                                                          {
                                                                            data :=
                                                                              #[120, 45, 102, 111, 114, 119, 97, 114, 100,
                                                                                101, 100, 45, 104, 111, 115, 116] },
                                                                        Value.string { data := #[116, 101] }].getD
                                                                    (0 +
                                                                      (nextR xs (d + 1) 11).toNat *
                                                                        1)
                                                                    (Value.tuple { toList := [] }))),
                                                              Value.string
                                                                (toStr
                                                                  ([Value.string { data := #[49] },
                                                                        Value.string { data := #[120] },
                                                                        Value.string { data := #[97, 44, 32, 98] },
                                                                        Value.string { data := #[] },
                                                                        Value.string
                                                                          {
                                                                            data :=
                                                                              #[120, 45, 111, 110, 101, 44, 32, 99, 108,
                                                                                111, 115, 101] },
                                                                        Value.string { data := #[103, 119] },
                                                                        Value.string
                                                                          { data := #[49, 46, 50, 46, 51, 46, 52] },
                                                                        Value.string
                                                                          {
                                                                            data :=
                                                                              #[53, 46, 54, 46, 55, 46, 56, 44, 32, 57, 46,
                                                                                57, 46, 57, 46, 57] }].getD
                                                                    (0 +
                                                                      (nextR xs (d + 1 + 1) 8).toNat *
                                                                        1)
                                                                    (Value.tuple { toList := [] }))),
                                                              Value.string
                                                                (toStr
                                                                  ([Value.string { data := #[97, 99, 99, 101, 112, 116] },
                                                                        Value.string
                                                                          { data := #[65, 99, 99, 101, 112, 116] },
                                                                        Value.string { data := #[120, 45, 111, 110, 101] },
                                                                        Value.string { data := #[88, 45, 84, 119, 111] },
                                                                        Value.string
                                                                          { data := #[99, 111, 111, 107, 105, 101] },
                                                                        Value.string { data := #[118, 97, 114, 121] },
                                                                        Value.string
                                                                          {
                                                                            data :=
                                                                              #[99, 111, 110, 110, 101, 99, 116, 105, 111,
                                                                                110] },
                                                                        Value.string
                                                                          {
                                                                            data :=
                                                                              #[120, 45, 102, 111, 114, 119, 97, 114, 100,
                                                                                101, 100, 45, 102, 111, 114] },
                                                                        Value.string { data := #[118, 105, 97] },
                                                                        Value.string
                                                                          {
                                                                            data :=
                                                                              #[120, 45, 102, 111, 114, 119, 97, 114, 100,
                                                                                101, 100, 45, 104, 111, 115, 116] },
                                                                        Value.string { data := #[116, 101] }].getD
                                                                    (0 +
                                                                      (nextR xs (d + 1 + 1 + 1) 11).toNat *
                                                                        1)
                                                                    (Value.tuple { toList := [] }))),
                                                              Value.string
                                                                (toStr
                                                                  ([Value.string { data := #[49] },
                                                                        Value.string { data := #[120] },
                                                                        Value.string { data := #[97, 44, 32, 98] },
                                                                        Value.string { data := #[] },
                                                                        Value.string
                                                                          {
                                                                            data :=
                                                                              #[120, 45, 111, 110, 101, 44, 32, 99, 108,
                                                                                111, 115, 101] },
                                                                        Value.string { data := #[103, 119] },
                                                                        Value.string
                                                                          { data := #[49, 46, 50, 46, 51, 46, 52] },
                                                                        Value.string
                                                                          {
                                                                            data :=
                                                                              #[53, 46, 54, 46, 55, 46, 56, 44, 32, 57, 46,
                                                                                57, 46, 57, 46, 57] }].getD
                                                                    (0 +
                                                                      (nextR xs (d + 1 + 1 + 1 + 1) 8).toNat *
                                                                        1)
                                                                    (Value.tuple { toList := [] }))),
                                                              Value.string
                                                                (toStr
                                                                  ([Value.string { data := #[97, 99, 99, 101, 112, 116] },
                                                                        Value.string
                                                                          { data := #[65, 99, 99, 101, 112, 116] },
                                                                        Value.string { data := #[120, 45, 111, 110, 101] },
                                                                        Value.string { data := #[88, 45, 84, 119, 111] },
                                                                        Value.string
                                                                          { data := #[99, 111, 111, 107, 105, 101] },
                                                                        Value.string { data := #[118, 97, 114, 121] },
                                                                        Value.string
                                                                          {
                                                                            data :=
                                                                              #[99, 111, 110, 110, 101, 99, 116, 105, 111,
                                                                                110] },
                                                                        Value.string
                                                                          {
                                                                            data :=
                                                                              #[120, 45, 102, 111, 114, 119, 97, 114, 100,
                                                                                101, 100, 45, 102, 111, 114] },
                                                                        Value.string { data := #[118, 105, 97] },
                                                                        Value.string
                                                                          {
                                                                            data :=
                                                                              #[120, 45, 102, 111, 114, 119, 97, 114, 100,
                                                                                101, 100, 45, 104, 111, 115, 116] },
                                                                        Value.string { data := #[116, 101] }].getD
                                                                    (0 +
                                                                      (nextR xs (d + 1 + 1 + 1 + 1 + 1) 11).toNat *
                                                                        1)
                                                                    (Value.tuple { toList := [] }))),
                                                              Value.string
                                                                (toStr
                                                                  ([Value.string { data := #[49] },
                                                                        Value.string { data := #[120] },
                                                                        Value.string { data := #[97, 44, 32, 98] },
                                                                        Value.string { data := #[] },
                                                                        Value.string
                                                                          {
                                                                            data :=
                                                                              #[120, 45, 111, 110, 101, 44, 32, 99, 108,
                                                                                111, 115, 101] },
                                                                        Value.string { data := #[103, 119] },
                                                                        Value.string
                                                                          { data := #[49, 46, 50, 46, 51, 46, 52] },
                                                                        Value.string
                                                                          {
                                                                            data :=
                                                                              #[53, 46, 54, 46, 55, 46, 56, 44, 32, 57, 46,
                                                                                57, 46, 57, 46, 57] }].getD
                                                                    (0 +
                                                                      (nextR xs (d + 1 + 1 + 1 + 1 + 1 + 1) 8).toNat *
                                                                        1)
                                                                    (Value.tuple { toList := [] })))] }
                                                        99 (0, 0)))
                                              else False
                                            else False
                                          else False
                                        else False
                                      else False
                                    else False
                                  else False
                                else False
                              else False
                            else False
                          else False
                        else False
                      else False
                    else False
                  else False
                else False
              else False
            else False
          else False
        else False
      else False
    else False := by kernel_rfl
theorem rh4 (xs : Array Value) (d : Int) (Q : Value → Option Obj → Option Obj → Prop) : (ffn Tryz.prog SI [(7, true), (8, true), (9, true), (10, true), (11, false)] 2000 [] Tryz.f58 [.pointer (some ⟨0, 0, none⟩), .int .i64 4] (h1 (strm xs d)) (fun v h => Q v (h.get 0) (h.get (blkOf v)))) =
    bif decide (0 ≤ d) && decide (d ≤ 1000000) && true && true && true && allInts xs then
      bif decide (0 < IntKind.i64.wrap (0 + nextR xs d 5)) then
        bif decide (0 ≤ d + 1) && decide (d + 1 ≤ 1000000) && true && true && true && allInts xs then
          bif decide (0 ≤ nextR xs (d + 1) 11) && decide (nextR xs (d + 1) 11 < 11) then
            bif (0 + (nextR xs (d + 1) 11).toNat * 1).blt 11 then
              bif decide (0 ≤ d + 1 + 1) && decide (d + 1 + 1 ≤ 1000000) && true && true && true && allInts xs then
                bif decide (0 ≤ nextR xs (d + 1 + 1) 8) && decide (nextR xs (d + 1 + 1) 8 < 8) then
                  bif (0 + (nextR xs (d + 1 + 1) 8).toNat * 1).blt 8 then
                    bif decide (1 < IntKind.i64.wrap (0 + nextR xs d 5)) then
                      bif
                          decide (0 ≤ d + 1 + 1 + 1) && decide (d + 1 + 1 + 1 ≤ 1000000) && true && true && true &&
                            allInts xs then
                        bif decide (0 ≤ nextR xs (d + 1 + 1 + 1) 11) && decide (nextR xs (d + 1 + 1 + 1) 11 < 11) then
                          bif (0 + (nextR xs (d + 1 + 1 + 1) 11).toNat * 1).blt 11 then
                            bif
                                decide (0 ≤ d + 1 + 1 + 1 + 1) && decide (d + 1 + 1 + 1 + 1 ≤ 1000000) && true && true &&
                                    true &&
                                  allInts xs then
                              bif
                                  decide (0 ≤ nextR xs (d + 1 + 1 + 1 + 1) 8) &&
                                    decide (nextR xs (d + 1 + 1 + 1 + 1) 8 < 8) then
                                bif (0 + (nextR xs (d + 1 + 1 + 1 + 1) 8).toNat * 1).blt 8 then
                                  bif decide (2 < IntKind.i64.wrap (0 + nextR xs d 5)) then
                                    bif
                                        decide (0 ≤ d + 1 + 1 + 1 + 1 + 1) && decide (d + 1 + 1 + 1 + 1 + 1 ≤ 1000000) &&
                                                true &&
                                              true &&
                                            true &&
                                          allInts xs then
                                      bif
                                          decide (0 ≤ nextR xs (d + 1 + 1 + 1 + 1 + 1) 11) &&
                                            decide (nextR xs (d + 1 + 1 + 1 + 1 + 1) 11 < 11) then
                                        bif (0 + (nextR xs (d + 1 + 1 + 1 + 1 + 1) 11).toNat * 1).blt 11 then
                                          bif
                                              decide (0 ≤ d + 1 + 1 + 1 + 1 + 1 + 1) &&
                                                        decide (d + 1 + 1 + 1 + 1 + 1 + 1 ≤ 1000000) &&
                                                      true &&
                                                    true &&
                                                  true &&
                                                allInts xs then
                                            bif
                                                decide (0 ≤ nextR xs (d + 1 + 1 + 1 + 1 + 1 + 1) 8) &&
                                                  decide (nextR xs (d + 1 + 1 + 1 + 1 + 1 + 1) 8 < 8) then
                                              bif (0 + (nextR xs (d + 1 + 1 + 1 + 1 + 1 + 1) 8).toNat * 1).blt 8 then
                                                bif decide (3 < IntKind.i64.wrap (0 + nextR xs d 5)) then
                                                  bif
                                                      decide (0 ≤ d + 1 + 1 + 1 + 1 + 1 + 1 + 1) &&
                                                                decide (d + 1 + 1 + 1 + 1 + 1 + 1 + 1 ≤ 1000000) &&
                                                              true &&
                                                            true &&
                                                          true &&
                                                        allInts xs then
                                                    bif
                                                        decide (0 ≤ nextR xs (d + 1 + 1 + 1 + 1 + 1 + 1 + 1) 11) &&
                                                          decide (nextR xs (d + 1 + 1 + 1 + 1 + 1 + 1 + 1) 11 < 11) then
                                                      bif
                                                          (0 + (nextR xs (d + 1 + 1 + 1 + 1 + 1 + 1 + 1) 11).toNat * 1).blt
                                                            11 then
                                                        bif
                                                            decide (0 ≤ d + 1 + 1 + 1 + 1 + 1 + 1 + 1 + 1) &&
                                                                      decide
                                                                        (d + 1 + 1 + 1 + 1 + 1 + 1 + 1 + 1 ≤ 1000000) &&
                                                                    true &&
                                                                  true &&
                                                                true &&
                                                              allInts xs then
                                                          bif
                                                              decide (0 ≤ nextR xs (d + 1 + 1 + 1 + 1 + 1 + 1 + 1 + 1) 8) &&
                                                                decide
                                                                  (nextR xs (d + 1 + 1 + 1 + 1 + 1 + 1 + 1 + 1) 8 < 8) then
                                                            bif
                                                                (0 +
                                                                      (nextR xs (d + 1 + 1 + 1 + 1 + 1 + 1 + 1 + 1)
                                                                            8).toNat *
                                                                        1).blt
                                                                  8 then
                                                              bif decide (4 < IntKind.i64.wrap (0 + nextR xs d 5)) then
                                                                False
                                                              else
                                                                Q (Value.slice (some { block := 16, off := 0 }) 4 4)
                                                                  (some
                                                                    (Obj.cells
                                                                      {
                                                                        toList :=
                                                                          [Value.func (Fn.yield 0) xs { toList := [] },
                                                                            Value.int IntKind.i64
                                                                              (d + 1 + 1 + 1 + 1 + 1 + 1 + 1 + 1 + 1)] }
                                                                      25 (0, 0)))
                                                                  (some
                                                                    (Obj.cells
                                                                      {
                                                                        toList :=
                                                                          [Value.string
                                                                              (toStr
                                                                                ([Value.string
                                                                                        {
                                                                                          data :=
                                                                                            #[97, 99, 99, 101, 112, 116] },
                                                                                      Value.string
                                                                                        {
                                                                                          data :=
                                                                                            #[65, 99, 99, 101, 112, 116] },
                                                                                      Value.string
                                                                                        {
                                                                                          data :=
                                                                                            #[120, 45, 111, 110, 101] },
                                                                                      Value.string
                                                                                        { data := #[88, 45, 84, 119, 111] },
                                                                                      Value.string
                                                                                        {
                                                                                          data :=
                                                                                            #[99, 111, 111, 107, 105,
                                                                                              101] },
                                                                                      Value.string
                                                                                        { data := #[118, 97, 114, 121] },
                                                                                      Value.string
                                                                                        {
                                                                                          data :=
                                                                                            #[99, 111, 110, 110, 101, 99,
                                                                                              116, 105, 111, 110] },
                                                                                      Value.string
                                                                                        {
                                                                                          data :=
                                                                                            #[120, 45, 102, 111, 114, 119,
                                                                                              97, 114, 100, 101, 100, 45,
                                                                                              102, 111, 114] },
                                                                                      Value.string
                                                                                        { data := #[118, 105, 97] },
                                                                                      Value.string
                                                                                        {
                                                                                          data :=
                                                                                            #[120, 45, 102, 111, 114, 119,
                                                                                              97, 114, 100, 101, 100, 45,
                                                                                              104, 111, 115, 116] },
                                                                                      Value.string
                                                                                        { data := #[116, 101] }].getD
                                                                                  (0 +
                                                                                    (nextR xs (d + 1) 11).toNat *
                                                                                      1)
                                                                                  (Value.tuple { toList := [] }))),
                                                                            Value.string
                                                                              (toStr
                                                                                ([Value.string { data := #[49] },
                                                                                      Value.string { data := #[120] },
                                                                                      Value.string
                                                                                        { data := #[97, 44, 32, 98] },
                                                                                      Value.string { data := #[] },
                                                                                      Value.string
                                                                                        {
                                                                                          data :=
                                                                                            #[120, 45, 111, 110, 101, 44,
                                                                                              32, 99, 108, 111, 115, 101] },
                                                                                      Value.string { data := #[103, 119] },
                                                                                      Value.string
                                                                                        {
                                                                                          data :=
                                                                                            #[49, 46, 50, 46, 51, 46, 52] },
                                                                                      Value.string
                                                                                        {
                                                                                          data :=
                                                                                            #[53, 46, 54, 46, 55, 46, 56,
                                                                                              44, 32, 57, 46, 57, 46, 57,
                                                                                              46, 57] }].getD
                                                                                  (0 +
                                                                                    (nextR xs (d + 1 + 1) 8).toNat *
                                                                                      1)
                                                                                  (Value.tuple { toList := [] }))),
                                                                            Value.string
                                                                              (toStr
                                                                                ([Value.string
                                                                                        {
                                                                                          data :=
                                                                                            #[97, 99, 99, 101, 112, 116] },
                                                                                      Value.string
                                                                                        {
                                                                                          data :=
                                                                                            #[65, 99, 99, 101, 112, 116] },
                                                                                      Value.string
                                                                                        {
                                                                                          data :=
                                                                                            #[120, 45, 111, 110, 101] },
                                                                                      Value.string
                                                                                        { data := #[88, 45, 84, 119, 111] },
                                                                                      Value.string
                                                                                        {
                                                                                          data :=
                                                                                            #[99, 111, 111, 107, 105,
                                                                                              101] },
                                                                                      Value.string
                                                                                        { data := #[118, 97, 114, 121] },
                                                                                      Value.string
                                                                                        {
                                                                                          data :=
                                                                                            #[99, 111, 110, 110, 101, 99,
                                                                                              116, 105, 111, 110] },
                                                                                      Value.string
                                                                                        {
                                                                                          data :=
                                                                                            #[120, 45, 102, 111, 114, 119,
                                                                                              97, 114, 100, 101, 100, 45,
                                                                                              102, 111, 114] },
                                                                                      Value.string
                                                                                        { data := #[118, 105, 97] },
                                                                                      Value.string
                                                                                        {
                                                                                          data :=
                                                                                            #[120, 45, 102, 111, 114, 119,
                                                                                              97, 114, 100, 101, 100, 45,
                                                                                              104, 111, 115, 116] },
                                                                                      Value.string
                                                                                        { data := #[116, 101] }].getD
                                                                                  (0 +
                                                                                    (nextR xs (d + 1 + 1 + 1) 11).toNat *
                                                                                      1)
                                                                                  (Value.tuple { toList := [] }))),
                                                                            Value.string
                                                                              (toStr
                                                                                ([Value.string { data := #[49] },
                                                                                      Value.string { data := #[120] },
                                                                                      Value.string
                                                                                        { data := #[97, 44, 32, 98] },
                                                                                      Value.string { data := #[] },
                                                                                      Value.string
                                                                                        {
                                                                                          data :=
                                                                                            #[120, 45, 111, 110, 101, 44,
                                                                                              32, 99, 108, 111, 115, 101] },
                                                                                      Value.string { data := #[103, 119] },
                                                                                      Value.string
                                                                                        {
                                                                                          data :=
                                                                                            #[49, 46, 50, 46, 51, 46, 52] },
                                                                                      Value.string
                                                                                        {
                                                                                          data :=
                                                                                            #[53, 46, 54, 46, 55, 46, 56,
                                                                                              44, 32, 57, 46, 57, 46, 57,
                                                                                              46, 57] }].getD
                                                                                  (0 +
                                                                                    (nextR xs (d + 1 + 1 + 1 + 1)
                                                                                          8).toNat *
                                                                                      1)
                                                                                  (Value.tuple { toList := [] }))),
                                                                            Value.string
                                                                              (toStr
                                                                                ([Value.string
                                                                                        {
                                                                                          data :=
                                                                                            #[97, 99, 99, 101, 112, 116] },
                                                                                      Value.string
                                                                                        {
                                                                                          data :=
                                                                                            #[65, 99, 99, 101, 112, 116] },
                                                                                      Value.string
                                                                                        {
                                                                                          data :=
                                                                                            #[120, 45, 111, 110, 101] },
                                                                                      Value.string
                                                                                        { data := #[88, 45, 84, 119, 111] },
                                                                                      Value.string
                                                                                        {
                                                                                          data :=
                                                                                            #[99, 111, 111, 107, 105,
                                                                                              101] },
                                                                                      Value.string
                                                                                        { data := #[118, 97, 114, 121] },
                                                                                      Value.string
                                                                                        {
                                                                                          data :=
                                                                                            #[99, 111, 110, 110, 101, 99,
                                                                                              116, 105, 111, 110] },
                                                                                      Value.string
                                                                                        {
                                                                                          data :=
                                                                                            #[120, 45, 102, 111, 114, 119,
                                                                                              97, 114, 100, 101, 100, 45,
                                                                                              102, 111, 114] },
                                                                                      Value.string
                                                                                        { data := #[118, 105, 97] },
                                                                                      Value.string
                                                                                        {
                                                                                          data :=
                                                                                            #[120, 45, 102, 111, 114, 119,
                                                                                              97, 114, 100, 101, 100, 45,
                                                                                              104, 111, 115, 116] },
                                                                                      Value.string
                                                                                        { data := #[116, 101] }].getD
                                                                                  (0 +
                                                                                    (nextR xs (d + 1 + 1 + 1 + 1 + 1)
                                                                                          11).toNat *
                                                                                      1)
                                                                                  (Value.tuple { toList := [] }))),
                                                                            Value.string
                                                                              (toStr
                                                                                ([Value.string { data := #[49] },
                                                                                      Value.string { data := #[120] },
                                                                                      Value.string
                                                                                        { data := #[97, 44, 32, 98] },
                                                                                      Value.string { data := #[] },
                                                                                      Value.string
                                                                                        {
                                                                                          data :=
                                                                                            #[120, 45, 111, 110, 101, 44,
                                                                                              32, 99, 108, 111, 115, 101] },
                                                                                      Value.string { data := #[103, 119] },
                                                                                      Value.string
                                                                                        {
                                                                                          data :=
                                                                                            #[49, 46, 50, 46, 51, 46, 52] },
                                                                                      Value.string
                                                                                        {
                                                                                          data :=
                                                                                            #[53, 46, 54, 46, 55, 46, 56,
                                                                                              44, 32, 57, 46, 57, 46, 57,
                                                                                              46, 57] }].getD
                                                                                  (0 +
                                                                                    (nextR xs (d + 1 + 1 + 1 + 1 + 1 + 1)
                                                                                          8).toNat *
                                                                                      1)
                                                                                  (Value.tuple { toList := [] }))),
                                                                            Value.string
                                                                              (toStr
                                                                                ([Value.string
                                                                                        {
                                                                                          data :=
                                                                                            #[97, 99, 99, 101, 112, 116] },
                                                                                      Value.string
                                                                                        {
                                                                                          data :=
                                                                                            #[65, 99, 99, 101, 112, 116] },
                                                                                      Value.string
                                                                                        {
                                                                                          data :=
                                                                                            #[120, 45, 111, 110, 101] },
                                                                                      Value.string
                                                                                        { data := #[88, 45, 84, 119, 111] },
                                                                                      Value.string
                                                                                        {
                                                                                          data :=
                                                                                            #[99, 111, 111, 107, 105,
                                                                                              101] },
                                                                                      Value.string
                                                                                        { data := #[118, 97, 114, 121] },
                                                                                      Value.string
                                                                                        {
                                                                                          data :=
                                                                                            #[99, 111, 110, 110, 101, 99,
                                                                                              116, 105, 111, 110] },
                                                                                      Value.string
                                                                                        {
                                                                                          data :=
                                                                                            #[120, 45, 102, 111, 114, 119,
                                                                                              97, 114, 100, 101, 100, 45,
                                                                                              102, 111, 114] },
                                                                                      Value.string
                                                                                        { data := #[118, 105, 97] },
                                                                                      Value.string
                                                                                        {
                                                                                          data :=
                                                                                            #[120, 45, 102, 111, 114, 119,
                                                                                              97, 114, 100, 101, 100, 45,
                                                                                              104, 111, 115, 116] },
                                                                                      Value.string
                                                                                        { data := #[116, 101] }].getD
                                                                                  (0 +
                                                                                    (nextR xs
                                                                                          (d + 1 + 1 + 1 + 1 + 1 + 1 + 1)
                                                                                          11).toNat *
                                                                                      1)
                                                                                  (Value.tuple { toList := [] }))),
                                                                            Value.string
                                                                              (toStr
                                                                                ([Value.string { data := #[49] },
                                                                                      Value.string { data := #[120] },
                                                                                      Value.string
                                                                                        { data := #[97, 44, 32, 98] },
                                                                                      Value.string { data := #[] },
                                                                                      Value.string
                                                                                        {
                                                                                          data :=
                                                                                            #[120, 45, 111, 110, 101, 44,
                                                                                              32, 99, 108, 111, 115, 101] },
                                                                                      Value.string { data := #[103, 119] },
                                                                                      Value.string
                                                                                        {
                                                                                          data :=
                                                                                            #[49, 46, 50, 46, 51, 46, 52] },
                                                                                      Value.string
                                                                                        {
                                                                                          data :=
                                                                                            #[53, 46, 54, 46, 55, 46, 56,
                                                                                              44, 32, 57, 46, 57, 46, 57,
                                                                                              46, 57] }].getD
                                                                                  (0 +
                                                                                    (nextR xs
                                                                                          (d + 1 + 1 + 1 + 1 + 1 + 1 + 1 +
                                                                                            1)
                                                                                          8).toNat *
                                                                                      1)
                                                                                  (Value.tuple { toList := [] })))] }
                                                                      99 (0, 0)))
                                                            else False
                                                          else False
                                                        else False
                                                      else False
                                                    else False
                                                  else False
                                                else False
                                              else False
                                            else False
                                          else False
                                        else False
                                      else False
                                    else False
                                  else False
                                else False
                              else False
                            else False
                          else False
                        else False
                      else False
                    else False
                  else False
                else False
              else False
            else False
          else False
        else False
      else False
    else False := by kernel_rfl
theorem rheads0 (zs : List Int) (d : Int) (h0 : 0 ≤ d) (h1 : d ≤ 100000) (hn : nextR (intsV zs) d 5 = 0) : FnOK 1 Tryz.prog 58 ⟨[.pointer (some ⟨0, 0, none⟩), .int .i64 4]⟩ (Ev.h1 (strm (intsV zs) d)) (fun u g => u = .slice none 0 0 ∧ g.get 0 = some (strm (intsV zs) (d + 1))) := by
  refine (FnOK.ftree (p := 1) SI_ok mixed Tryz.func58 someRH (rh0 (intsV zs) d (fun v o _ => v = .slice none 0 0 ∧ o = some (strm (intsV zs) (d + 1)))) ?_).mono ?_
  · exact need_mk (by rw [allInts_intsV]; simp; omega) (cut_mk (by rw [hn]; rfl) (⟨rfl, rfl⟩))
  · rintro v g ⟨q1, q2⟩
    exact ⟨q1, q2⟩
theorem rheads1 (zs : List Int) (d : Int) (h0 : 0 ≤ d) (h1 : d ≤ 100000) (hn : nextR (intsV zs) d 5 = 1) : FnOK 1 Tryz.prog 58 ⟨[.pointer (some ⟨0, 0, none⟩), .int .i64 4]⟩ (Ev.h1 (strm (intsV zs) d)) (fun u g => u = fz ⟨(drawnH (intsV zs) (d + 1) 1).map hv⟩ ∧ g.get 0 = some (strm (intsV zs) (d + 1 + 1 + 1))) := by
  have b0 := (nextR_spec zs 11 (d + 1) (by omega) (by omega) (by omega) (by omega)).1
  have e0 := (nextR_spec zs 8 (d + 1 + 1) (by omega) (by omega) (by omega) (by omega)).1
  refine FnOK.weak1 ((FnOK.ftree (p := 1) SI_ok mixed Tryz.func58 someRH (rh1 (intsV zs) d (fun v o q => v = .slice (some ⟨4, 0, none⟩) 1 1 ∧ o = some (strm (intsV zs) (d + 1 + 1 + 1)) ∧ q = some (.cells ⟨(drawnH (intsV zs) (d + 1) 1).flatMap hc⟩ 99 (0, 0)))) ?_).mono ?_)
  · exact need_mk (by rw [allInts_intsV]; simp; omega) (need_mk (by rw [hn]; rfl) (need_mk (by rw [allInts_intsV]; simp; omega) (need_mk (in11 _ b0.1 b0.2) (need_mk (blt11 _ b0.1 b0.2) (need_mk (by rw [allInts_intsV]; simp; omega) (need_mk (in8 _ e0.1 e0.2) (need_mk (blt8 _ e0.1 e0.2) (cut_mk (by rw [hn]; rfl) (⟨rfl, rfl, rfl⟩)))))))))
  · rintro v g ⟨rfl, q0, hb⟩
    exact ⟨_, _, freezeH _ (drawnH_len _ _ _) hb, rfl, (del_ne (i := 0) (b := 4) (by decide)).trans q0⟩
theorem rheads2 (zs : List Int) (d : Int) (h0 : 0 ≤ d) (h1 : d ≤ 100000) (hn : nextR (intsV zs) d 5 = 2) : FnOK 1 Tryz.prog 58 ⟨[.pointer (some ⟨0, 0, none⟩), .int .i64 4]⟩ (Ev.h1 (strm (intsV zs) d)) (fun u g => u = fz ⟨(drawnH (intsV zs) (d + 1) 2).map hv⟩ ∧ g.get 0 = some (strm (intsV zs) (d + 1 + 1 + 1 + 1 + 1))) := by
  have b0 := (nextR_spec zs 11 (d + 1) (by omega) (by omega) (by omega) (by omega)).1
  have e0 := (nextR_spec zs 8 (d + 1 + 1) (by omega) (by omega) (by omega) (by omega)).1
  have b1 := (nextR_spec zs 11 (d + 1 + 1 + 1) (by omega) (by omega) (by omega) (by omega)).1
  have e1 := (nextR_spec zs 8 (d + 1 + 1 + 1 + 1) (by omega) (by omega) (by omega) (by omega)).1
  refine FnOK.weak1 ((FnOK.ftree (p := 1) SI_ok mixed Tryz.func58 someRH (rh2 (intsV zs) d (fun v o q => v = .slice (some ⟨8, 0, none⟩) 2 2 ∧ o = some (strm (intsV zs) (d + 1 + 1 + 1 + 1 + 1)) ∧ q = some (.cells ⟨(drawnH (intsV zs) (d + 1) 2).flatMap hc⟩ 99 (0, 0)))) ?_).mono ?_)
  · exact need_mk (by rw [allInts_intsV]; simp; omega) (need_mk (by rw [hn]; rfl) (need_mk (by rw [allInts_intsV]; simp; omega) (need_mk (in11 _ b0.1 b0.2) (need_mk (blt11 _ b0.1 b0.2) (need_mk (by rw [allInts_intsV]; simp; omega) (need_mk (in8 _ e0.1 e0.2) (need_mk (blt8 _ e0.1 e0.2) (need_mk (by rw [hn]; rfl) (need_mk (by rw [allInts_intsV]; simp; omega) (need_mk (in11 _ b1.1 b1.2) (need_mk (blt11 _ b1.1 b1.2) (need_mk (by rw [allInts_intsV]; simp; omega) (need_mk (in8 _ e1.1 e1.2) (need_mk (blt8 _ e1.1 e1.2) (cut_mk (by rw [hn]; rfl) (⟨rfl, rfl, rfl⟩))))))))))))))))
  · rintro v g ⟨rfl, q0, hb⟩
    exact ⟨_, _, freezeH _ (drawnH_len _ _ _) hb, rfl, (del_ne (i := 0) (b := 8) (by decide)).trans q0⟩
theorem rheads3 (zs : List Int) (d : Int) (h0 : 0 ≤ d) (h1 : d ≤ 100000) (hn : nextR (intsV zs) d 5 = 3) : FnOK 1 Tryz.prog 58 ⟨[.pointer (some ⟨0, 0, none⟩), .int .i64 4]⟩ (Ev.h1 (strm (intsV zs) d)) (fun u g => u = fz ⟨(drawnH (intsV zs) (d + 1) 3).map hv⟩ ∧ g.get 0 = some (strm (intsV zs) (d + 1 + 1 + 1 + 1 + 1 + 1 + 1))) := by
  have b0 := (nextR_spec zs 11 (d + 1) (by omega) (by omega) (by omega) (by omega)).1
  have e0 := (nextR_spec zs 8 (d + 1 + 1) (by omega) (by omega) (by omega) (by omega)).1
  have b1 := (nextR_spec zs 11 (d + 1 + 1 + 1) (by omega) (by omega) (by omega) (by omega)).1
  have e1 := (nextR_spec zs 8 (d + 1 + 1 + 1 + 1) (by omega) (by omega) (by omega) (by omega)).1
  have b2 := (nextR_spec zs 11 (d + 1 + 1 + 1 + 1 + 1) (by omega) (by omega) (by omega) (by omega)).1
  have e2 := (nextR_spec zs 8 (d + 1 + 1 + 1 + 1 + 1 + 1) (by omega) (by omega) (by omega) (by omega)).1
  refine FnOK.weak1 ((FnOK.ftree (p := 1) SI_ok mixed Tryz.func58 someRH (rh3 (intsV zs) d (fun v o q => v = .slice (some ⟨12, 0, none⟩) 3 3 ∧ o = some (strm (intsV zs) (d + 1 + 1 + 1 + 1 + 1 + 1 + 1)) ∧ q = some (.cells ⟨(drawnH (intsV zs) (d + 1) 3).flatMap hc⟩ 99 (0, 0)))) ?_).mono ?_)
  · exact need_mk (by rw [allInts_intsV]; simp; omega) (need_mk (by rw [hn]; rfl) (need_mk (by rw [allInts_intsV]; simp; omega) (need_mk (in11 _ b0.1 b0.2) (need_mk (blt11 _ b0.1 b0.2) (need_mk (by rw [allInts_intsV]; simp; omega) (need_mk (in8 _ e0.1 e0.2) (need_mk (blt8 _ e0.1 e0.2) (need_mk (by rw [hn]; rfl) (need_mk (by rw [allInts_intsV]; simp; omega) (need_mk (in11 _ b1.1 b1.2) (need_mk (blt11 _ b1.1 b1.2) (need_mk (by rw [allInts_intsV]; simp; omega) (need_mk (in8 _ e1.1 e1.2) (need_mk (blt8 _ e1.1 e1.2) (need_mk (by rw [hn]; rfl) (need_mk (by rw [allInts_intsV]; simp; omega) (need_mk (in11 _ b2.1 b2.2) (need_mk (blt11 _ b2.1 b2.2) (need_mk (by rw [allInts_intsV]; simp; omega) (need_mk (in8 _ e2.1 e2.2) (need_mk (blt8 _ e2.1 e2.2) (cut_mk (by rw [hn]; rfl) (⟨rfl, rfl, rfl⟩)))))))))))))))))))))))
  · rintro v g ⟨rfl, q0, hb⟩
    exact ⟨_, _, freezeH _ (drawnH_len _ _ _) hb, rfl, (del_ne (i := 0) (b := 12) (by decide)).trans q0⟩
theorem rheads4 (zs : List Int) (d : Int) (h0 : 0 ≤ d) (h1 : d ≤ 100000) (hn : nextR (intsV zs) d 5 = 4) : FnOK 1 Tryz.prog 58 ⟨[.pointer (some ⟨0, 0, none⟩), .int .i64 4]⟩ (Ev.h1 (strm (intsV zs) d)) (fun u g => u = fz ⟨(drawnH (intsV zs) (d + 1) 4).map hv⟩ ∧ g.get 0 = some (strm (intsV zs) (d + 1 + 1 + 1 + 1 + 1 + 1 + 1 + 1 + 1))) := by
  have b0 := (nextR_spec zs 11 (d + 1) (by omega) (by omega) (by omega) (by omega)).1
  have e0 := (nextR_spec zs 8 (d + 1 + 1) (by omega) (by omega) (by omega) (by omega)).1
  have b1 := (nextR_spec zs 11 (d + 1 + 1 + 1) (by omega) (by omega) (by omega) (by omega)).1
  have e1 := (nextR_spec zs 8 (d + 1 + 1 + 1 + 1) (by omega) (by omega) (by omega) (by omega)).1
  have b2 := (nextR_spec zs 11 (d + 1 + 1 + 1 + 1 + 1) (by omega) (by omega) (by omega) (by omega)).1
  have e2 := (nextR_spec zs 8 (d + 1 + 1 + 1 + 1 + 1 + 1) (by omega) (by omega) (by omega) (by omega)).1
  have b3 := (nextR_spec zs 11 (d + 1 + 1 + 1 + 1 + 1 + 1 + 1) (by omega) (by omega) (by omega) (by omega)).1
  have e3 := (nextR_spec zs 8 (d + 1 + 1 + 1 + 1 + 1 + 1 + 1 + 1) (by omega) (by omega) (by omega) (by omega)).1
  refine FnOK.weak1 ((FnOK.ftree (p := 1) SI_ok mixed Tryz.func58 someRH (rh4 (intsV zs) d (fun v o q => v = .slice (some ⟨16, 0, none⟩) 4 4 ∧ o = some (strm (intsV zs) (d + 1 + 1 + 1 + 1 + 1 + 1 + 1 + 1 + 1)) ∧ q = some (.cells ⟨(drawnH (intsV zs) (d + 1) 4).flatMap hc⟩ 99 (0, 0)))) ?_).mono ?_)
  · exact need_mk (by rw [allInts_intsV]; simp; omega) (need_mk (by rw [hn]; rfl) (need_mk (by rw [allInts_intsV]; simp; omega) (need_mk (in11 _ b0.1 b0.2) (need_mk (blt11 _ b0.1 b0.2) (need_mk (by rw [allInts_intsV]; simp; omega) (need_mk (in8 _ e0.1 e0.2) (need_mk (blt8 _ e0.1 e0.2) (need_mk (by rw [hn]; rfl) (need_mk (by rw [allInts_intsV]; simp; omega) (need_mk (in11 _ b1.1 b1.2) (need_mk (blt11 _ b1.1 b1.2) (need_mk (by rw [allInts_intsV]; simp; omega) (need_mk (in8 _ e1.1 e1.2) (need_mk (blt8 _ e1.1 e1.2) (need_mk (by rw [hn]; rfl) (need_mk (by rw [allInts_intsV]; simp; omega) (need_mk (in11 _ b2.1 b2.2) (need_mk (blt11 _ b2.1 b2.2) (need_mk (by rw [allInts_intsV]; simp; omega) (need_mk (in8 _ e2.1 e2.2) (need_mk (blt8 _ e2.1 e2.2) (need_mk (by rw [hn]; rfl) (need_mk (by rw [allInts_intsV]; simp; omega) (need_mk (in11 _ b3.1 b3.2) (need_mk (blt11 _ b3.1 b3.2) (need_mk (by rw [allInts_intsV]; simp; omega) (need_mk (in8 _ e3.1 e3.2) (need_mk (blt8 _ e3.1 e3.2) (cut_mk (by rw [hn]; rfl) (⟨rfl, rfl, rfl⟩))))))))))))))))))))))))))))))
  · rintro v g ⟨rfl, q0, hb⟩
    exact ⟨_, _, freezeH _ (drawnH_len _ _ _) hb, rfl, (del_ne (i := 0) (b := 16) (by decide)).trans q0⟩
end Go.Proofs.YtfjfdemnnhfmoaaGreatDoor
