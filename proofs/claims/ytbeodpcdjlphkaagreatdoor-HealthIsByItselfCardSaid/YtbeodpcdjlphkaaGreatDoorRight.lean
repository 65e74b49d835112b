/-
  'RightInstances': what it draws, as a plain list in memory that nobody writes any more.
-/
import Derived.Test.YtbeodpcdjlphkaaGreatDoorBase
namespace Go.Proofs.YtbeodpcdjlphkaaGreatDoor
open Go.Ev Go.RowKit

/-- The weight that is picked. -/
def wtV (r : Int) : Int := toInt ([Value.int IntKind.i64 1, Value.int IntKind.i64 1, Value.int IntKind.i64 2, Value.int IntKind.i64 3, Value.int IntKind.i64 5].getD (0 + r.toNat * 1) (Value.tuple { toList := [] }))
def instV (p : ByteArray × Int) : Value := .agg ⟨[.string p.1, .int .i64 p.2]⟩
def instC (p : ByteArray × Int) : List Value := [.string p.1, .int .i64 p.2]

theorem inst_get : ∀ (l : List (ByteArray × Int)) (i j : Nat) (x v : Value), (l.map instV)[i]? = some x → x.cells[j]? = some v → (l.flatMap instC)[i * 2 + j]? = some v
  | [], i, j, x, v, h, _ => by simp at h
  | p :: l, 0, j, x, v, h, h2 => by
    simp only [List.map_cons, List.getElem?_cons_zero, Option.some.injEq] at h
    subst h
    simp only [instV, Value.cells] at h2
    match j, h2 with
    | 0, h2 => simpa [instC] using h2
    | 1, h2 => simpa [instC] using h2
    | j + 2, h2 => simp at h2
  | p :: l, i + 1, j, x, v, h, h2 => by
    have := inst_get l i j x v (by simpa using h) h2
    simp only [List.flatMap_cons, instC]
    rw [show (i + 1) * 2 + j = (i * 2 + j) + 1 + 1 by omega]
    simpa [instC] using this

theorem instC_len : ∀ l : List (ByteArray × Int), (l.flatMap instC).length = l.length * 2
  | [] => rfl
  | p :: l => by
    rw [List.flatMap_cons, List.length_append, instC_len l, List.length_cons]
    show 2 + l.length * 2 = (l.length + 1) * 2
    omega
theorem freezeI {p : Nat} {P : Program} {h : AH} {b : Nat} {t : TypeId} {fr : Nat × Nat} (l : List (ByteArray × Int)) (hb : h.get b = some (.cells ⟨l.flatMap instC⟩ t fr)) :
    Weak p P #[.slice (some ⟨b, 0, none⟩) l.length l.length] h #[fz ⟨l.map instV⟩] (h.del b) := by
  refine Weak.freeze (n := l.length) (cap := l.length) b 2 ⟨l.map instV⟩ hb ?_ (by simp) (Nat.le_refl _) ?_ ?_ ?_ rfl ?_
  · intro v hv
    have hv : v ∈ l.flatMap instC := by simpa using hv
    obtain ⟨p, _, hp⟩ := List.mem_flatMap.1 hv
    simp only [instC, List.mem_cons, List.not_mem_nil, or_false] at hp
    rcases hp with rfl | rfl <;> rfl
  · have := instC_len l
    show l.length * 2 ≤ (l.flatMap instC).length
    omega
  · intro i x hx
    have hx : (l.map instV)[i]? = some x := by simpa using hx
    rw [List.getElem?_map] at hx
    obtain ⟨q, _, rfl⟩ := Option.map_eq_some_iff.1 hx
    rfl
  · intro i j x v hx hv
    have := inst_get l i j x v (by simpa using hx) hv
    simpa using this
  · intro i
    cases i with
    | zero => exact .inr ⟨rfl, rfl⟩
    | succ i => exact .inl (by simp)

theorem blt5 (r : Int) (h0 : 0 ≤ r) (h1 : r < 5) : (0 + r.toNat * 1).blt 5 = true := by
  rw [Nat.blt, Nat.ble_eq]; omega
theorem in5 (r : Int) (h0 : 0 ≤ r) (h1 : r < 5) : (decide (0 ≤ r) && decide (r < 5)) = true := by simp [h0, h1]
theorem flipN {r : Int} (h : r ≠ 0) : (!r == 0) = true := by simp [h]
theorem flipY {r : Int} (h : r = 0) : (!r == 0) = false := by simp [h]
theorem some5 : Tryz.f5.body.isSome = true := by kernel_rfl

theorem ri1111 (xs : Array Value) (Q : Value → Option Obj → Option Obj → Prop) : (ffn Tryz.prog SI [(96324, true), (6171, true), (899059, true), (589500, true)] 1000 [] Tryz.f5 [.pointer (some ⟨0, 0, none⟩)] (h1 (strm xs 0)) (fun v h => Q v (h.get 0) (h.get (blkOf v)))) =
    bif allInts xs then
      bif !nextR xs 0 4 == 0 then
        bif allInts xs then
          bif decide (0 ≤ nextR xs 1 5) && decide (nextR xs 1 5 < 5) then
            bif (0 + (nextR xs 1 5).toNat * 1).blt 5 then
              bif allInts xs then
                bif !nextR xs 2 4 == 0 then
                  bif allInts xs then
                    bif decide (0 ≤ nextR xs 3 5) && decide (nextR xs 3 5 < 5) then
                      bif (0 + (nextR xs 3 5).toNat * 1).blt 5 then
                        bif allInts xs then
                          bif !nextR xs 4 4 == 0 then
                            bif allInts xs then
                              bif decide (0 ≤ nextR xs 5 5) && decide (nextR xs 5 5 < 5) then
                                bif (0 + (nextR xs 5 5).toNat * 1).blt 5 then
                                  bif allInts xs then
                                    bif !nextR xs 6 4 == 0 then
                                      bif allInts xs then
                                        bif decide (0 ≤ nextR xs 7 5) && decide (nextR xs 7 5 < 5) then
                                          bif (0 + (nextR xs 7 5).toNat * 1).blt 5 then
                                            Q (Value.slice (some { block := 13, off := 0 }) 4 4)
                                              (some
                                                (Obj.cells
                                                  {
                                                    toList :=
                                                      [Value.func (Fn.yield 0) xs { toList := [] },
                                                        Value.int IntKind.i64 8] }
                                                  25 (0, 0)))
                                              (some
                                                (Obj.cells
                                                  {
                                                    toList :=
                                                      [Value.string { data := #[105, 97] },
                                                        Value.int IntKind.i64
                                                          (toInt
                                                            ([Value.int IntKind.i64 1, Value.int IntKind.i64 1,
                                                                  Value.int IntKind.i64 2, Value.int IntKind.i64 3,
                                                                  Value.int IntKind.i64 5].getD
                                                              (0 + (nextR xs 1 5).toNat * 1)
                                                              (Value.tuple { toList := [] }))),
                                                        Value.string { data := #[105, 98] },
                                                        Value.int IntKind.i64
                                                          (toInt
                                                            ([Value.int IntKind.i64 1, Value.int IntKind.i64 1,
                                                                  Value.int IntKind.i64 2, Value.int IntKind.i64 3,
                                                                  Value.int IntKind.i64 5].getD
                                                              (0 +
                                                                (nextR xs 3 5).toNat *
                                                                  1)
                                                              (Value.tuple { toList := [] }))),
                                                        Value.string { data := #[105, 99] },
                                                        Value.int IntKind.i64
                                                          (toInt
                                                            ([Value.int IntKind.i64 1, Value.int IntKind.i64 1,
                                                                  Value.int IntKind.i64 2, Value.int IntKind.i64 3,
                                                                  Value.int IntKind.i64 5].getD
                                                              (0 +
                                                                (nextR xs 5 5).toNat *
                                                                  1)
                                                              (Value.tuple { toList := [] }))),
                                                        Value.string { data := #[105, 100] },
                                                        Value.int IntKind.i64
                                                          (toInt
                                                            ([Value.int IntKind.i64 1, Value.int IntKind.i64 1,
                                                                  Value.int IntKind.i64 2, Value.int IntKind.i64 3,
                                                                  Value.int IntKind.i64 5].getD
                                                              (0 +
                                                                (nextR xs 7 5).toNat *
                                                                  1)
                                                              (Value.tuple { toList := [] })))] }
                                                  40 (0, 0)))
                                          else False
                                        else False
                                      else False
                                    else False
                                  else False
                                else False
                              else False
                            else False
                          else False
                        else False
                      else False
                    else False
                  else False
                else False
              else False
            else False
          else False
        else False
      else False
    else False := by kernel_rfl
theorem ri1110 (xs : Array Value) (Q : Value → Option Obj → Option Obj → Prop) : (ffn Tryz.prog SI [(96324, true), (6171, true), (899059, true), (589500, false)] 1000 [] Tryz.f5 [.pointer (some ⟨0, 0, none⟩)] (h1 (strm xs 0)) (fun v h => Q v (h.get 0) (h.get (blkOf v)))) =
    bif allInts xs then
      bif !nextR xs 0 4 == 0 then
        bif allInts xs then
          bif decide (0 ≤ nextR xs 1 5) && decide (nextR xs 1 5 < 5) then
            bif (0 + (nextR xs 1 5).toNat * 1).blt 5 then
              bif allInts xs then
                bif !nextR xs 2 4 == 0 then
                  bif allInts xs then
                    bif decide (0 ≤ nextR xs 3 5) && decide (nextR xs 3 5 < 5) then
                      bif (0 + (nextR xs 3 5).toNat * 1).blt 5 then
                        bif allInts xs then
                          bif !nextR xs 4 4 == 0 then
                            bif allInts xs then
                              bif decide (0 ≤ nextR xs 5 5) && decide (nextR xs 5 5 < 5) then
                                bif (0 + (nextR xs 5 5).toNat * 1).blt 5 then
                                  bif allInts xs then
                                    bif !nextR xs 6 4 == 0 then False
                                    else
                                      Q (Value.slice (some { block := 10, off := 0 }) 3 3)
                                        (some
                                          (Obj.cells
                                            {
                                              toList :=
                                                [Value.func (Fn.yield 0) xs { toList := [] }, Value.int IntKind.i64 7] }
                                            25 (0, 0)))
                                        (some
                                          (Obj.cells
                                            {
                                              toList :=
                                                [Value.string { data := #[105, 97] },
                                                  Value.int IntKind.i64
                                                    (toInt
                                                      ([Value.int IntKind.i64 1, Value.int IntKind.i64 1,
                                                            Value.int IntKind.i64 2, Value.int IntKind.i64 3,
                                                            Value.int IntKind.i64 5].getD
                                                        (0 + (nextR xs 1 5).toNat * 1)
                                                        (Value.tuple { toList := [] }))),
                                                  Value.string { data := #[105, 98] },
                                                  Value.int IntKind.i64
                                                    (toInt
                                                      ([Value.int IntKind.i64 1, Value.int IntKind.i64 1,
                                                            Value.int IntKind.i64 2, Value.int IntKind.i64 3,
                                                            Value.int IntKind.i64 5].getD
                                                        (0 + (nextR xs 3 5).toNat * 1)
                                                        (Value.tuple { toList := [] }))),
                                                  Value.string { data := #[105, 99] },
                                                  Value.int IntKind.i64
                                                    (toInt
                                                      ([Value.int IntKind.i64 1, Value.int IntKind.i64 1,
                                                            Value.int IntKind.i64 2, Value.int IntKind.i64 3,
                                                            Value.int IntKind.i64 5].getD
                                                        (0 +
                                                          (nextR xs 5 5).toNat *
                                                            1)
                                                        (Value.tuple { toList := [] })))] }
                                            40 (0, 0)))
                                  else False
                                else False
                              else False
                            else False
                          else False
                        else False
                      else False
                    else False
                  else False
                else False
              else False
            else False
          else False
        else False
      else False
    else False := by kernel_rfl
theorem ri1101 (xs : Array Value) (Q : Value → Option Obj → Option Obj → Prop) : (ffn Tryz.prog SI [(96324, true), (6171, true), (899059, false), (901483, true)] 1000 [] Tryz.f5 [.pointer (some ⟨0, 0, none⟩)] (h1 (strm xs 0)) (fun v h => Q v (h.get 0) (h.get (blkOf v)))) =
    bif allInts xs then
      bif !nextR xs 0 4 == 0 then
        bif allInts xs then
          bif decide (0 ≤ nextR xs 1 5) && decide (nextR xs 1 5 < 5) then
            bif (0 + (nextR xs 1 5).toNat * 1).blt 5 then
              bif allInts xs then
                bif !nextR xs 2 4 == 0 then
                  bif allInts xs then
                    bif decide (0 ≤ nextR xs 3 5) && decide (nextR xs 3 5 < 5) then
                      bif (0 + (nextR xs 3 5).toNat * 1).blt 5 then
                        bif allInts xs then
                          bif !nextR xs 4 4 == 0 then False
                          else
                            bif allInts xs then
                              bif !nextR xs 5 4 == 0 then
                                bif allInts xs then
                                  bif decide (0 ≤ nextR xs 6 5) && decide (nextR xs 6 5 < 5) then
                                    bif (0 + (nextR xs 6 5).toNat * 1).blt 5 then
                                      Q (Value.slice (some { block := 10, off := 0 }) 3 3)
                                        (some
                                          (Obj.cells
                                            {
                                              toList :=
                                                [Value.func (Fn.yield 0) xs { toList := [] }, Value.int IntKind.i64 7] }
                                            25 (0, 0)))
                                        (some
                                          (Obj.cells
                                            {
                                              toList :=
                                                [Value.string { data := #[105, 97] },
                                                  Value.int IntKind.i64
                                                    (toInt
                                                      ([Value.int IntKind.i64 1, Value.int IntKind.i64 1,
                                                            Value.int IntKind.i64 2, Value.int IntKind.i64 3,
                                                            Value.int IntKind.i64 5].getD
                                                        (0 + (nextR xs 1 5).toNat * 1)
                                                        (Value.tuple { toList := [] }))),
                                                  Value.string { data := #[105, 98] },
                                                  Value.int IntKind.i64
                                                    (toInt
                                                      ([Value.int IntKind.i64 1, Value.int IntKind.i64 1,
                                                            Value.int IntKind.i64 2, Value.int IntKind.i64 3,
                                                            Value.int IntKind.i64 5].getD
                                                        (0 + (nextR xs 3 5).toNat * 1)
                                                        (Value.tuple { toList := [] }))),
                                                  Value.string { data := #[105, 100] },
                                                  Value.int IntKind.i64
                                                    (toInt
                                                      ([Value.int IntKind.i64 1, Value.int IntKind.i64 1,
                                                            Value.int IntKind.i64 2, Value.int IntKind.i64 3,
                                                            Value.int IntKind.i64 5].getD
                                                        (0 +
                                                          (nextR xs 6 5).toNat *
                                                            1)
                                                        (Value.tuple { toList := [] })))] }
                                            40 (0, 0)))
                                    else False
                                  else False
                                else False
                              else False
                            else False
                        else False
                      else False
                    else False
                  else False
                else False
              else False
            else False
          else False
        else False
      else False
    else False := by kernel_rfl
theorem ri1100 (xs : Array Value) (Q : Value → Option Obj → Option Obj → Prop) : (ffn Tryz.prog SI [(96324, true), (6171, true), (899059, false), (901483, false)] 1000 [] Tryz.f5 [.pointer (some ⟨0, 0, none⟩)] (h1 (strm xs 0)) (fun v h => Q v (h.get 0) (h.get (blkOf v)))) =
    bif allInts xs then
      bif !nextR xs 0 4 == 0 then
        bif allInts xs then
          bif decide (0 ≤ nextR xs 1 5) && decide (nextR xs 1 5 < 5) then
            bif (0 + (nextR xs 1 5).toNat * 1).blt 5 then
              bif allInts xs then
                bif !nextR xs 2 4 == 0 then
                  bif allInts xs then
                    bif decide (0 ≤ nextR xs 3 5) && decide (nextR xs 3 5 < 5) then
                      bif (0 + (nextR xs 3 5).toNat * 1).blt 5 then
                        bif allInts xs then
                          bif !nextR xs 4 4 == 0 then False
                          else
                            bif allInts xs then
                              bif !nextR xs 5 4 == 0 then False
                              else
                                Q (Value.slice (some { block := 7, off := 0 }) 2 2)
                                  (some
                                    (Obj.cells
                                      { toList := [Value.func (Fn.yield 0) xs { toList := [] }, Value.int IntKind.i64 6] }
                                      25 (0, 0)))
                                  (some
                                    (Obj.cells
                                      {
                                        toList :=
                                          [Value.string { data := #[105, 97] },
                                            Value.int IntKind.i64
                                              (toInt
                                                ([Value.int IntKind.i64 1, Value.int IntKind.i64 1, Value.int IntKind.i64 2,
                                                      Value.int IntKind.i64 3, Value.int IntKind.i64 5].getD
                                                  (0 + (nextR xs 1 5).toNat * 1)
                                                  (Value.tuple { toList := [] }))),
                                            Value.string { data := #[105, 98] },
                                            Value.int IntKind.i64
                                              (toInt
                                                ([Value.int IntKind.i64 1, Value.int IntKind.i64 1, Value.int IntKind.i64 2,
                                                      Value.int IntKind.i64 3, Value.int IntKind.i64 5].getD
                                                  (0 + (nextR xs 3 5).toNat * 1)
                                                  (Value.tuple { toList := [] })))] }
                                      40 (0, 0)))
                            else False
                        else False
                      else False
                    else False
                  else False
                else False
              else False
            else False
          else False
        else False
      else False
    else False := by kernel_rfl
theorem ri1011 (xs : Array Value) (Q : Value → Option Obj → Option Obj → Prop) : (ffn Tryz.prog SI [(96324, true), (6171, false), (497782, true), (228228, true)] 1000 [] Tryz.f5 [.pointer (some ⟨0, 0, none⟩)] (h1 (strm xs 0)) (fun v h => Q v (h.get 0) (h.get (blkOf v)))) =
    bif allInts xs then
      bif !nextR xs 0 4 == 0 then
        bif allInts xs then
          bif decide (0 ≤ nextR xs 1 5) && decide (nextR xs 1 5 < 5) then
            bif (0 + (nextR xs 1 5).toNat * 1).blt 5 then
              bif allInts xs then
                bif !nextR xs 2 4 == 0 then False
                else
                  bif allInts xs then
                    bif !nextR xs 3 4 == 0 then
                      bif allInts xs then
                        bif decide (0 ≤ nextR xs 4 5) && decide (nextR xs 4 5 < 5) then
                          bif (0 + (nextR xs 4 5).toNat * 1).blt 5 then
                            bif allInts xs then
                              bif !nextR xs 5 4 == 0 then
                                bif allInts xs then
                                  bif decide (0 ≤ nextR xs 6 5) && decide (nextR xs 6 5 < 5) then
                                    bif (0 + (nextR xs 6 5).toNat * 1).blt 5 then
                                      Q (Value.slice (some { block := 10, off := 0 }) 3 3)
                                        (some
                                          (Obj.cells
                                            {
                                              toList :=
                                                [Value.func (Fn.yield 0) xs { toList := [] }, Value.int IntKind.i64 7] }
                                            25 (0, 0)))
                                        (some
                                          (Obj.cells
                                            {
                                              toList :=
                                                [Value.string { data := #[105, 97] },
                                                  Value.int IntKind.i64
                                                    (toInt
                                                      ([Value.int IntKind.i64 1, Value.int IntKind.i64 1,
                                                            Value.int IntKind.i64 2, Value.int IntKind.i64 3,
                                                            Value.int IntKind.i64 5].getD
                                                        (0 + (nextR xs 1 5).toNat * 1)
                                                        (Value.tuple { toList := [] }))),
                                                  Value.string { data := #[105, 99] },
                                                  Value.int IntKind.i64
                                                    (toInt
                                                      ([Value.int IntKind.i64 1, Value.int IntKind.i64 1,
                                                            Value.int IntKind.i64 2, Value.int IntKind.i64 3,
                                                            Value.int IntKind.i64 5].getD
                                                        (0 +
                                                          (nextR xs 4 5).toNat * 1)
                                                        (Value.tuple { toList := [] }))),
                                                  Value.string { data := #[105, 100] },
                                                  Value.int IntKind.i64
                                                    (toInt
                                                      ([Value.int IntKind.i64 1, Value.int IntKind.i64 1,
                                                            Value.int IntKind.i64 2, Value.int IntKind.i64 3,
                                                            Value.int IntKind.i64 5].getD
                                                        (0 +
                                                          (nextR xs 6 5).toNat *
                                                            1)
                                                        (Value.tuple { toList := [] })))] }
                                            40 (0, 0)))
                                    else False
                                  else False
                                else False
                              else False
                            else False
                          else False
                        else False
                      else False
                    else False
                  else False
              else False
            else False
          else False
        else False
      else False
    else False := by kernel_rfl
theorem ri1010 (xs : Array Value) (Q : Value → Option Obj → Option Obj → Prop) : (ffn Tryz.prog SI [(96324, true), (6171, false), (497782, true), (228228, false)] 1000 [] Tryz.f5 [.pointer (some ⟨0, 0, none⟩)] (h1 (strm xs 0)) (fun v h => Q v (h.get 0) (h.get (blkOf v)))) =
    bif allInts xs then
      bif !nextR xs 0 4 == 0 then
        bif allInts xs then
          bif decide (0 ≤ nextR xs 1 5) && decide (nextR xs 1 5 < 5) then
            bif (0 + (nextR xs 1 5).toNat * 1).blt 5 then
              bif allInts xs then
                bif !nextR xs 2 4 == 0 then False
                else
                  bif allInts xs then
                    bif !nextR xs 3 4 == 0 then
                      bif allInts xs then
                        bif decide (0 ≤ nextR xs 4 5) && decide (nextR xs 4 5 < 5) then
                          bif (0 + (nextR xs 4 5).toNat * 1).blt 5 then
                            bif allInts xs then
                              bif !nextR xs 5 4 == 0 then False
                              else
                                Q (Value.slice (some { block := 7, off := 0 }) 2 2)
                                  (some
                                    (Obj.cells
                                      { toList := [Value.func (Fn.yield 0) xs { toList := [] }, Value.int IntKind.i64 6] }
                                      25 (0, 0)))
                                  (some
                                    (Obj.cells
                                      {
                                        toList :=
                                          [Value.string { data := #[105, 97] },
                                            Value.int IntKind.i64
                                              (toInt
                                                ([Value.int IntKind.i64 1, Value.int IntKind.i64 1, Value.int IntKind.i64 2,
                                                      Value.int IntKind.i64 3, Value.int IntKind.i64 5].getD
                                                  (0 + (nextR xs 1 5).toNat * 1)
                                                  (Value.tuple { toList := [] }))),
                                            Value.string { data := #[105, 99] },
                                            Value.int IntKind.i64
                                              (toInt
                                                ([Value.int IntKind.i64 1, Value.int IntKind.i64 1, Value.int IntKind.i64 2,
                                                      Value.int IntKind.i64 3, Value.int IntKind.i64 5].getD
                                                  (0 + (nextR xs 4 5).toNat * 1)
                                                  (Value.tuple { toList := [] })))] }
                                      40 (0, 0)))
                            else False
                          else False
                        else False
                      else False
                    else False
                  else False
              else False
            else False
          else False
        else False
      else False
    else False := by kernel_rfl
theorem ri1001 (xs : Array Value) (Q : Value → Option Obj → Option Obj → Prop) : (ffn Tryz.prog SI [(96324, true), (6171, false), (497782, false), (702084, true)] 1000 [] Tryz.f5 [.pointer (some ⟨0, 0, none⟩)] (h1 (strm xs 0)) (fun v h => Q v (h.get 0) (h.get (blkOf v)))) =
    bif allInts xs then
      bif !nextR xs 0 4 == 0 then
        bif allInts xs then
          bif decide (0 ≤ nextR xs 1 5) && decide (nextR xs 1 5 < 5) then
            bif (0 + (nextR xs 1 5).toNat * 1).blt 5 then
              bif allInts xs then
                bif !nextR xs 2 4 == 0 then False
                else
                  bif allInts xs then
                    bif !nextR xs 3 4 == 0 then False
                    else
                      bif allInts xs then
                        bif !nextR xs 4 4 == 0 then
                          bif allInts xs then
                            bif decide (0 ≤ nextR xs 5 5) && decide (nextR xs 5 5 < 5) then
                              bif (0 + (nextR xs 5 5).toNat * 1).blt 5 then
                                Q (Value.slice (some { block := 7, off := 0 }) 2 2)
                                  (some
                                    (Obj.cells
                                      { toList := [Value.func (Fn.yield 0) xs { toList := [] }, Value.int IntKind.i64 6] }
                                      25 (0, 0)))
                                  (some
                                    (Obj.cells
                                      {
                                        toList :=
                                          [Value.string { data := #[105, 97] },
                                            Value.int IntKind.i64
                                              (toInt
                                                ([Value.int IntKind.i64 1, Value.int IntKind.i64 1, Value.int IntKind.i64 2,
                                                      Value.int IntKind.i64 3, Value.int IntKind.i64 5].getD
                                                  (0 + (nextR xs 1 5).toNat * 1)
                                                  (Value.tuple { toList := [] }))),
                                            Value.string { data := #[105, 100] },
                                            Value.int IntKind.i64
                                              (toInt
                                                ([Value.int IntKind.i64 1, Value.int IntKind.i64 1, Value.int IntKind.i64 2,
                                                      Value.int IntKind.i64 3, Value.int IntKind.i64 5].getD
                                                  (0 +
                                                    (nextR xs 5 5).toNat * 1)
                                                  (Value.tuple { toList := [] })))] }
                                      40 (0, 0)))
                              else False
                            else False
                          else False
                        else False
                      else False
                  else False
              else False
            else False
          else False
        else False
      else False
    else False := by kernel_rfl
theorem ri1000 (xs : Array Value) (Q : Value → Option Obj → Option Obj → Prop) : (ffn Tryz.prog SI [(96324, true), (6171, false), (497782, false), (702084, false)] 1000 [] Tryz.f5 [.pointer (some ⟨0, 0, none⟩)] (h1 (strm xs 0)) (fun v h => Q v (h.get 0) (h.get (blkOf v)))) =
    bif allInts xs then
      bif !nextR xs 0 4 == 0 then
        bif allInts xs then
          bif decide (0 ≤ nextR xs 1 5) && decide (nextR xs 1 5 < 5) then
            bif (0 + (nextR xs 1 5).toNat * 1).blt 5 then
              bif allInts xs then
                bif !nextR xs 2 4 == 0 then False
                else
                  bif allInts xs then
                    bif !nextR xs 3 4 == 0 then False
                    else
                      bif allInts xs then
                        bif !nextR xs 4 4 == 0 then False
                        else
                          Q (Value.slice (some { block := 4, off := 0 }) 1 1)
                            (some
                              (Obj.cells
                                { toList := [Value.func (Fn.yield 0) xs { toList := [] }, Value.int IntKind.i64 5] } 25
                                (0, 0)))
                            (some
                              (Obj.cells
                                {
                                  toList :=
                                    [Value.string { data := #[105, 97] },
                                      Value.int IntKind.i64
                                        (toInt
                                          ([Value.int IntKind.i64 1, Value.int IntKind.i64 1, Value.int IntKind.i64 2,
                                                Value.int IntKind.i64 3, Value.int IntKind.i64 5].getD
                                            (0 + (nextR xs 1 5).toNat * 1)
                                            (Value.tuple { toList := [] })))] }
                                40 (0, 0)))
                      else False
                  else False
              else False
            else False
          else False
        else False
      else False
    else False := by kernel_rfl
theorem ri0111 (xs : Array Value) (Q : Value → Option Obj → Option Obj → Prop) : (ffn Tryz.prog SI [(96324, false), (274794, true), (256854, true), (828732, true)] 1000 [] Tryz.f5 [.pointer (some ⟨0, 0, none⟩)] (h1 (strm xs 0)) (fun v h => Q v (h.get 0) (h.get (blkOf v)))) =
    bif allInts xs then
      bif !nextR xs 0 4 == 0 then False
      else
        bif allInts xs then
          bif !nextR xs 1 4 == 0 then
            bif allInts xs then
              bif decide (0 ≤ nextR xs 2 5) && decide (nextR xs 2 5 < 5) then
                bif (0 + (nextR xs 2 5).toNat * 1).blt 5 then
                  bif allInts xs then
                    bif !nextR xs 3 4 == 0 then
                      bif allInts xs then
                        bif decide (0 ≤ nextR xs 4 5) && decide (nextR xs 4 5 < 5) then
                          bif (0 + (nextR xs 4 5).toNat * 1).blt 5 then
                            bif allInts xs then
                              bif !nextR xs 5 4 == 0 then
                                bif allInts xs then
                                  bif decide (0 ≤ nextR xs 6 5) && decide (nextR xs 6 5 < 5) then
                                    bif (0 + (nextR xs 6 5).toNat * 1).blt 5 then
                                      Q (Value.slice (some { block := 10, off := 0 }) 3 3)
                                        (some
                                          (Obj.cells
                                            {
                                              toList :=
                                                [Value.func (Fn.yield 0) xs { toList := [] }, Value.int IntKind.i64 7] }
                                            25 (0, 0)))
                                        (some
                                          (Obj.cells
                                            {
                                              toList :=
                                                [Value.string { data := #[105, 98] },
                                                  Value.int IntKind.i64
                                                    (toInt
                                                      ([Value.int IntKind.i64 1, Value.int IntKind.i64 1,
                                                            Value.int IntKind.i64 2, Value.int IntKind.i64 3,
                                                            Value.int IntKind.i64 5].getD
                                                        (0 + (nextR xs 2 5).toNat * 1)
                                                        (Value.tuple { toList := [] }))),
                                                  Value.string { data := #[105, 99] },
                                                  Value.int IntKind.i64
                                                    (toInt
                                                      ([Value.int IntKind.i64 1, Value.int IntKind.i64 1,
                                                            Value.int IntKind.i64 2, Value.int IntKind.i64 3,
                                                            Value.int IntKind.i64 5].getD
                                                        (0 +
                                                          (nextR xs 4 5).toNat * 1)
                                                        (Value.tuple { toList := [] }))),
                                                  Value.string { data := #[105, 100] },
                                                  Value.int IntKind.i64
                                                    (toInt
                                                      ([Value.int IntKind.i64 1, Value.int IntKind.i64 1,
                                                            Value.int IntKind.i64 2, Value.int IntKind.i64 3,
                                                            Value.int IntKind.i64 5].getD
                                                        (0 +
                                                          (nextR xs 6 5).toNat *
                                                            1)
                                                        (Value.tuple { toList := [] })))] }
                                            40 (0, 0)))
                                    else False
                                  else False
                                else False
                              else False
                            else False
                          else False
                        else False
                      else False
                    else False
                  else False
                else False
              else False
            else False
          else False
        else False
    else False := by kernel_rfl
theorem ri0110 (xs : Array Value) (Q : Value → Option Obj → Option Obj → Prop) : (ffn Tryz.prog SI [(96324, false), (274794, true), (256854, true), (828732, false)] 1000 [] Tryz.f5 [.pointer (some ⟨0, 0, none⟩)] (h1 (strm xs 0)) (fun v h => Q v (h.get 0) (h.get (blkOf v)))) =
    bif allInts xs then
      bif !nextR xs 0 4 == 0 then False
      else
        bif allInts xs then
          bif !nextR xs 1 4 == 0 then
            bif allInts xs then
              bif decide (0 ≤ nextR xs 2 5) && decide (nextR xs 2 5 < 5) then
                bif (0 + (nextR xs 2 5).toNat * 1).blt 5 then
                  bif allInts xs then
                    bif !nextR xs 3 4 == 0 then
                      bif allInts xs then
                        bif decide (0 ≤ nextR xs 4 5) && decide (nextR xs 4 5 < 5) then
                          bif (0 + (nextR xs 4 5).toNat * 1).blt 5 then
                            bif allInts xs then
                              bif !nextR xs 5 4 == 0 then False
                              else
                                Q (Value.slice (some { block := 7, off := 0 }) 2 2)
                                  (some
                                    (Obj.cells
                                      { toList := [Value.func (Fn.yield 0) xs { toList := [] }, Value.int IntKind.i64 6] }
                                      25 (0, 0)))
                                  (some
                                    (Obj.cells
                                      {
                                        toList :=
                                          [Value.string { data := #[105, 98] },
                                            Value.int IntKind.i64
                                              (toInt
                                                ([Value.int IntKind.i64 1, Value.int IntKind.i64 1, Value.int IntKind.i64 2,
                                                      Value.int IntKind.i64 3, Value.int IntKind.i64 5].getD
                                                  (0 + (nextR xs 2 5).toNat * 1)
                                                  (Value.tuple { toList := [] }))),
                                            Value.string { data := #[105, 99] },
                                            Value.int IntKind.i64
                                              (toInt
                                                ([Value.int IntKind.i64 1, Value.int IntKind.i64 1, Value.int IntKind.i64 2,
                                                      Value.int IntKind.i64 3, Value.int IntKind.i64 5].getD
                                                  (0 + (nextR xs 4 5).toNat * 1)
                                                  (Value.tuple { toList := [] })))] }
                                      40 (0, 0)))
                            else False
                          else False
                        else False
                      else False
                    else False
                  else False
                else False
              else False
            else False
          else False
        else False
    else False := by kernel_rfl
theorem ri0101 (xs : Array Value) (Q : Value → Option Obj → Option Obj → Prop) : (ffn Tryz.prog SI [(96324, false), (274794, true), (256854, false), (317651, true)] 1000 [] Tryz.f5 [.pointer (some ⟨0, 0, none⟩)] (h1 (strm xs 0)) (fun v h => Q v (h.get 0) (h.get (blkOf v)))) =
    bif allInts xs then
      bif !nextR xs 0 4 == 0 then False
      else
        bif allInts xs then
          bif !nextR xs 1 4 == 0 then
            bif allInts xs then
              bif decide (0 ≤ nextR xs 2 5) && decide (nextR xs 2 5 < 5) then
                bif (0 + (nextR xs 2 5).toNat * 1).blt 5 then
                  bif allInts xs then
                    bif !nextR xs 3 4 == 0 then False
                    else
                      bif allInts xs then
                        bif !nextR xs 4 4 == 0 then
                          bif allInts xs then
                            bif decide (0 ≤ nextR xs 5 5) && decide (nextR xs 5 5 < 5) then
                              bif (0 + (nextR xs 5 5).toNat * 1).blt 5 then
                                Q (Value.slice (some { block := 7, off := 0 }) 2 2)
                                  (some
                                    (Obj.cells
                                      { toList := [Value.func (Fn.yield 0) xs { toList := [] }, Value.int IntKind.i64 6] }
                                      25 (0, 0)))
                                  (some
                                    (Obj.cells
                                      {
                                        toList :=
                                          [Value.string { data := #[105, 98] },
                                            Value.int IntKind.i64
                                              (toInt
                                                ([Value.int IntKind.i64 1, Value.int IntKind.i64 1, Value.int IntKind.i64 2,
                                                      Value.int IntKind.i64 3, Value.int IntKind.i64 5].getD
                                                  (0 + (nextR xs 2 5).toNat * 1)
                                                  (Value.tuple { toList := [] }))),
                                            Value.string { data := #[105, 100] },
                                            Value.int IntKind.i64
                                              (toInt
                                                ([Value.int IntKind.i64 1, Value.int IntKind.i64 1, Value.int IntKind.i64 2,
                                                      Value.int IntKind.i64 3, Value.int IntKind.i64 5].getD
                                                  (0 +
                                                    (nextR xs 5 5).toNat * 1)
                                                  (Value.tuple { toList := [] })))] }
                                      40 (0, 0)))
                              else False
                            else False
                          else False
                        else False
                      else False
                  else False
                else False
              else False
            else False
          else False
        else False
    else False := by kernel_rfl
theorem ri0100 (xs : Array Value) (Q : Value → Option Obj → Option Obj → Prop) : (ffn Tryz.prog SI [(96324, false), (274794, true), (256854, false), (317651, false)] 1000 [] Tryz.f5 [.pointer (some ⟨0, 0, none⟩)] (h1 (strm xs 0)) (fun v h => Q v (h.get 0) (h.get (blkOf v)))) =
    bif allInts xs then
      bif !nextR xs 0 4 == 0 then False
      else
        bif allInts xs then
          bif !nextR xs 1 4 == 0 then
            bif allInts xs then
              bif decide (0 ≤ nextR xs 2 5) && decide (nextR xs 2 5 < 5) then
                bif (0 + (nextR xs 2 5).toNat * 1).blt 5 then
                  bif allInts xs then
                    bif !nextR xs 3 4 == 0 then False
                    else
                      bif allInts xs then
                        bif !nextR xs 4 4 == 0 then False
                        else
                          Q (Value.slice (some { block := 4, off := 0 }) 1 1)
                            (some
                              (Obj.cells
                                { toList := [Value.func (Fn.yield 0) xs { toList := [] }, Value.int IntKind.i64 5] } 25
                                (0, 0)))
                            (some
                              (Obj.cells
                                {
                                  toList :=
                                    [Value.string { data := #[105, 98] },
                                      Value.int IntKind.i64
                                        (toInt
                                          ([Value.int IntKind.i64 1, Value.int IntKind.i64 1, Value.int IntKind.i64 2,
                                                Value.int IntKind.i64 3, Value.int IntKind.i64 5].getD
                                            (0 + (nextR xs 2 5).toNat * 1)
                                            (Value.tuple { toList := [] })))] }
                                40 (0, 0)))
                      else False
                  else False
                else False
              else False
            else False
          else False
        else False
    else False := by kernel_rfl
theorem ri0011 (xs : Array Value) (Q : Value → Option Obj → Option Obj → Prop) : (ffn Tryz.prog SI [(96324, false), (274794, false), (573204, true), (577167, true)] 1000 [] Tryz.f5 [.pointer (some ⟨0, 0, none⟩)] (h1 (strm xs 0)) (fun v h => Q v (h.get 0) (h.get (blkOf v)))) =
    bif allInts xs then
      bif !nextR xs 0 4 == 0 then False
      else
        bif allInts xs then
          bif !nextR xs 1 4 == 0 then False
          else
            bif allInts xs then
              bif !nextR xs 2 4 == 0 then
                bif allInts xs then
                  bif decide (0 ≤ nextR xs 3 5) && decide (nextR xs 3 5 < 5) then
                    bif (0 + (nextR xs 3 5).toNat * 1).blt 5 then
                      bif allInts xs then
                        bif !nextR xs 4 4 == 0 then
                          bif allInts xs then
                            bif decide (0 ≤ nextR xs 5 5) && decide (nextR xs 5 5 < 5) then
                              bif (0 + (nextR xs 5 5).toNat * 1).blt 5 then
                                Q (Value.slice (some { block := 7, off := 0 }) 2 2)
                                  (some
                                    (Obj.cells
                                      { toList := [Value.func (Fn.yield 0) xs { toList := [] }, Value.int IntKind.i64 6] }
                                      25 (0, 0)))
                                  (some
                                    (Obj.cells
                                      {
                                        toList :=
                                          [Value.string { data := #[105, 99] },
                                            Value.int IntKind.i64
                                              (toInt
                                                ([Value.int IntKind.i64 1, Value.int IntKind.i64 1, Value.int IntKind.i64 2,
                                                      Value.int IntKind.i64 3, Value.int IntKind.i64 5].getD
                                                  (0 + (nextR xs 3 5).toNat * 1)
                                                  (Value.tuple { toList := [] }))),
                                            Value.string { data := #[105, 100] },
                                            Value.int IntKind.i64
                                              (toInt
                                                ([Value.int IntKind.i64 1, Value.int IntKind.i64 1, Value.int IntKind.i64 2,
                                                      Value.int IntKind.i64 3, Value.int IntKind.i64 5].getD
                                                  (0 +
                                                    (nextR xs 5 5).toNat * 1)
                                                  (Value.tuple { toList := [] })))] }
                                      40 (0, 0)))
                              else False
                            else False
                          else False
                        else False
                      else False
                    else False
                  else False
                else False
              else False
            else False
        else False
    else False := by kernel_rfl
theorem ri0010 (xs : Array Value) (Q : Value → Option Obj → Option Obj → Prop) : (ffn Tryz.prog SI [(96324, false), (274794, false), (573204, true), (577167, false)] 1000 [] Tryz.f5 [.pointer (some ⟨0, 0, none⟩)] (h1 (strm xs 0)) (fun v h => Q v (h.get 0) (h.get (blkOf v)))) =
    bif allInts xs then
      bif !nextR xs 0 4 == 0 then False
      else
        bif allInts xs then
          bif !nextR xs 1 4 == 0 then False
          else
            bif allInts xs then
              bif !nextR xs 2 4 == 0 then
                bif allInts xs then
                  bif decide (0 ≤ nextR xs 3 5) && decide (nextR xs 3 5 < 5) then
                    bif (0 + (nextR xs 3 5).toNat * 1).blt 5 then
                      bif allInts xs then
                        bif !nextR xs 4 4 == 0 then False
                        else
                          Q (Value.slice (some { block := 4, off := 0 }) 1 1)
                            (some
                              (Obj.cells
                                { toList := [Value.func (Fn.yield 0) xs { toList := [] }, Value.int IntKind.i64 5] } 25
                                (0, 0)))
                            (some
                              (Obj.cells
                                {
                                  toList :=
                                    [Value.string { data := #[105, 99] },
                                      Value.int IntKind.i64
                                        (toInt
                                          ([Value.int IntKind.i64 1, Value.int IntKind.i64 1, Value.int IntKind.i64 2,
                                                Value.int IntKind.i64 3, Value.int IntKind.i64 5].getD
                                            (0 + (nextR xs 3 5).toNat * 1)
                                            (Value.tuple { toList := [] })))] }
                                40 (0, 0)))
                      else False
                    else False
                  else False
                else False
              else False
            else False
        else False
    else False := by kernel_rfl
theorem ri0001 (xs : Array Value) (Q : Value → Option Obj → Option Obj → Prop) : (ffn Tryz.prog SI [(96324, false), (274794, false), (573204, false)] 1000 [] Tryz.f5 [.pointer (some ⟨0, 0, none⟩)] (h1 (strm xs 0)) (fun v h => Q v (h.get 0) (h.get (blkOf v)))) =
    bif allInts xs then
      bif !nextR xs 0 4 == 0 then False
      else
        bif allInts xs then
          bif !nextR xs 1 4 == 0 then False
          else
            bif allInts xs then
              bif !nextR xs 2 4 == 0 then False
              else
                bif allInts xs then
                  bif decide (0 ≤ nextR xs 3 5) && decide (nextR xs 3 5 < 5) then
                    bif (0 + (nextR xs 3 5).toNat * 1).blt 5 then
                      Q (Value.slice (some { block := 4, off := 0 }) 1 1)
                        (some
                          (Obj.cells { toList := [Value.func (Fn.yield 0) xs { toList := [] }, Value.int IntKind.i64 4] } 25
                            (0, 0)))
                        (some
                          (Obj.cells
                            {
                              toList :=
                                [Value.string { data := #[105, 100] },
                                  Value.int IntKind.i64
                                    (toInt
                                      ([Value.int IntKind.i64 1, Value.int IntKind.i64 1, Value.int IntKind.i64 2,
                                            Value.int IntKind.i64 3, Value.int IntKind.i64 5].getD
                                        (0 + (nextR xs 3 5).toNat * 1)
                                        (Value.tuple { toList := [] })))] }
                            40 (0, 0)))
                    else False
                  else False
                else False
            else False
        else False
    else False := by kernel_rfl
theorem right1111 (zs : List Int) (f0 : nextR (intsV zs) 0 4 ≠ 0) (f2 : nextR (intsV zs) 2 4 ≠ 0) (f4 : nextR (intsV zs) 4 4 ≠ 0) (f6 : nextR (intsV zs) 6 4 ≠ 0) : FnOK 1 Tryz.prog 5 ⟨[.pointer (some ⟨0, 0, none⟩)]⟩ (Ev.h1 (strm (intsV zs) 0))
    (fun u g => u = fz ⟨List.map instV [(⟨#[105, 97]⟩, wtV (nextR (intsV zs) 1 5)), (⟨#[105, 98]⟩, wtV (nextR (intsV zs) 3 5)), (⟨#[105, 99]⟩, wtV (nextR (intsV zs) 5 5)), (⟨#[105, 100]⟩, wtV (nextR (intsV zs) 7 5))]⟩ ∧ g.get 0 = some (strm (intsV zs) 8)) := by
  refine FnOK.weak1 ((FnOK.ftree (p := 1) SI_ok mixed Tryz.func5 some5 (ri1111 (intsV zs) (fun v o q => v = .slice (some ⟨13, 0, none⟩) 4 4 ∧ o = some (strm (intsV zs) 8) ∧
    q = some (.cells ⟨List.flatMap instC [(⟨#[105, 97]⟩, wtV (nextR (intsV zs) 1 5)), (⟨#[105, 98]⟩, wtV (nextR (intsV zs) 3 5)), (⟨#[105, 99]⟩, wtV (nextR (intsV zs) 5 5)), (⟨#[105, 100]⟩, wtV (nextR (intsV zs) 7 5))]⟩ 40 (0, 0)))) ?_).mono ?_)
  · have b1 := (nextR_spec zs 5 1 (by omega) (by omega) (by omega) (by omega)).1
    have b3 := (nextR_spec zs 5 3 (by omega) (by omega) (by omega) (by omega)).1
    have b5 := (nextR_spec zs 5 5 (by omega) (by omega) (by omega) (by omega)).1
    have b7 := (nextR_spec zs 5 7 (by omega) (by omega) (by omega) (by omega)).1
    refine need_mk (allInts_intsV zs) ?_
    exact need_mk (flipN f0) (need_mk (allInts_intsV zs) (need_mk (in5 _ b1.1 b1.2) (need_mk (blt5 _ b1.1 b1.2) (need_mk (allInts_intsV zs) (need_mk (flipN f2) (need_mk (allInts_intsV zs) (need_mk (in5 _ b3.1 b3.2) (need_mk (blt5 _ b3.1 b3.2) (need_mk (allInts_intsV zs) (need_mk (flipN f4) (need_mk (allInts_intsV zs) (need_mk (in5 _ b5.1 b5.2) (need_mk (blt5 _ b5.1 b5.2) (need_mk (allInts_intsV zs) (need_mk (flipN f6) (need_mk (allInts_intsV zs) (need_mk (in5 _ b7.1 b7.2) (need_mk (blt5 _ b7.1 b7.2) (⟨rfl, rfl, rfl⟩)))))))))))))))))))
  · rintro v g ⟨rfl, h0, hb⟩
    exact ⟨_, _, freezeI _ hb, rfl, (del_ne (i := 0) (b := 13) (by decide)).trans h0⟩
theorem right1110 (zs : List Int) (f0 : nextR (intsV zs) 0 4 ≠ 0) (f2 : nextR (intsV zs) 2 4 ≠ 0) (f4 : nextR (intsV zs) 4 4 ≠ 0) (f6 : nextR (intsV zs) 6 4 = 0) : FnOK 1 Tryz.prog 5 ⟨[.pointer (some ⟨0, 0, none⟩)]⟩ (Ev.h1 (strm (intsV zs) 0))
    (fun u g => u = fz ⟨List.map instV [(⟨#[105, 97]⟩, wtV (nextR (intsV zs) 1 5)), (⟨#[105, 98]⟩, wtV (nextR (intsV zs) 3 5)), (⟨#[105, 99]⟩, wtV (nextR (intsV zs) 5 5))]⟩ ∧ g.get 0 = some (strm (intsV zs) 7)) := by
  refine FnOK.weak1 ((FnOK.ftree (p := 1) SI_ok mixed Tryz.func5 some5 (ri1110 (intsV zs) (fun v o q => v = .slice (some ⟨10, 0, none⟩) 3 3 ∧ o = some (strm (intsV zs) 7) ∧
    q = some (.cells ⟨List.flatMap instC [(⟨#[105, 97]⟩, wtV (nextR (intsV zs) 1 5)), (⟨#[105, 98]⟩, wtV (nextR (intsV zs) 3 5)), (⟨#[105, 99]⟩, wtV (nextR (intsV zs) 5 5))]⟩ 40 (0, 0)))) ?_).mono ?_)
  · have b1 := (nextR_spec zs 5 1 (by omega) (by omega) (by omega) (by omega)).1
    have b3 := (nextR_spec zs 5 3 (by omega) (by omega) (by omega) (by omega)).1
    have b5 := (nextR_spec zs 5 5 (by omega) (by omega) (by omega) (by omega)).1
    refine need_mk (allInts_intsV zs) ?_
    exact need_mk (flipN f0) (need_mk (allInts_intsV zs) (need_mk (in5 _ b1.1 b1.2) (need_mk (blt5 _ b1.1 b1.2) (need_mk (allInts_intsV zs) (need_mk (flipN f2) (need_mk (allInts_intsV zs) (need_mk (in5 _ b3.1 b3.2) (need_mk (blt5 _ b3.1 b3.2) (need_mk (allInts_intsV zs) (need_mk (flipN f4) (need_mk (allInts_intsV zs) (need_mk (in5 _ b5.1 b5.2) (need_mk (blt5 _ b5.1 b5.2) (need_mk (allInts_intsV zs) (cut_mk (flipY f6) (⟨rfl, rfl, rfl⟩))))))))))))))))
  · rintro v g ⟨rfl, h0, hb⟩
    exact ⟨_, _, freezeI _ hb, rfl, (del_ne (i := 0) (b := 10) (by decide)).trans h0⟩
theorem right1101 (zs : List Int) (f0 : nextR (intsV zs) 0 4 ≠ 0) (f2 : nextR (intsV zs) 2 4 ≠ 0) (f4 : nextR (intsV zs) 4 4 = 0) (f5 : nextR (intsV zs) 5 4 ≠ 0) : FnOK 1 Tryz.prog 5 ⟨[.pointer (some ⟨0, 0, none⟩)]⟩ (Ev.h1 (strm (intsV zs) 0))
    (fun u g => u = fz ⟨List.map instV [(⟨#[105, 97]⟩, wtV (nextR (intsV zs) 1 5)), (⟨#[105, 98]⟩, wtV (nextR (intsV zs) 3 5)), (⟨#[105, 100]⟩, wtV (nextR (intsV zs) 6 5))]⟩ ∧ g.get 0 = some (strm (intsV zs) 7)) := by
  refine FnOK.weak1 ((FnOK.ftree (p := 1) SI_ok mixed Tryz.func5 some5 (ri1101 (intsV zs) (fun v o q => v = .slice (some ⟨10, 0, none⟩) 3 3 ∧ o = some (strm (intsV zs) 7) ∧
    q = some (.cells ⟨List.flatMap instC [(⟨#[105, 97]⟩, wtV (nextR (intsV zs) 1 5)), (⟨#[105, 98]⟩, wtV (nextR (intsV zs) 3 5)), (⟨#[105, 100]⟩, wtV (nextR (intsV zs) 6 5))]⟩ 40 (0, 0)))) ?_).mono ?_)
  · have b1 := (nextR_spec zs 5 1 (by omega) (by omega) (by omega) (by omega)).1
    have b3 := (nextR_spec zs 5 3 (by omega) (by omega) (by omega) (by omega)).1
    have b6 := (nextR_spec zs 5 6 (by omega) (by omega) (by omega) (by omega)).1
    refine need_mk (allInts_intsV zs) ?_
    exact need_mk (flipN f0) (need_mk (allInts_intsV zs) (need_mk (in5 _ b1.1 b1.2) (need_mk (blt5 _ b1.1 b1.2) (need_mk (allInts_intsV zs) (need_mk (flipN f2) (need_mk (allInts_intsV zs) (need_mk (in5 _ b3.1 b3.2) (need_mk (blt5 _ b3.1 b3.2) (need_mk (allInts_intsV zs) (cut_mk (flipY f4) (need_mk (allInts_intsV zs) (need_mk (flipN f5) (need_mk (allInts_intsV zs) (need_mk (in5 _ b6.1 b6.2) (need_mk (blt5 _ b6.1 b6.2) (⟨rfl, rfl, rfl⟩))))))))))))))))
  · rintro v g ⟨rfl, h0, hb⟩
    exact ⟨_, _, freezeI _ hb, rfl, (del_ne (i := 0) (b := 10) (by decide)).trans h0⟩
theorem right1100 (zs : List Int) (f0 : nextR (intsV zs) 0 4 ≠ 0) (f2 : nextR (intsV zs) 2 4 ≠ 0) (f4 : nextR (intsV zs) 4 4 = 0) (f5 : nextR (intsV zs) 5 4 = 0) : FnOK 1 Tryz.prog 5 ⟨[.pointer (some ⟨0, 0, none⟩)]⟩ (Ev.h1 (strm (intsV zs) 0))
    (fun u g => u = fz ⟨List.map instV [(⟨#[105, 97]⟩, wtV (nextR (intsV zs) 1 5)), (⟨#[105, 98]⟩, wtV (nextR (intsV zs) 3 5))]⟩ ∧ g.get 0 = some (strm (intsV zs) 6)) := by
  refine FnOK.weak1 ((FnOK.ftree (p := 1) SI_ok mixed Tryz.func5 some5 (ri1100 (intsV zs) (fun v o q => v = .slice (some ⟨7, 0, none⟩) 2 2 ∧ o = some (strm (intsV zs) 6) ∧
    q = some (.cells ⟨List.flatMap instC [(⟨#[105, 97]⟩, wtV (nextR (intsV zs) 1 5)), (⟨#[105, 98]⟩, wtV (nextR (intsV zs) 3 5))]⟩ 40 (0, 0)))) ?_).mono ?_)
  · have b1 := (nextR_spec zs 5 1 (by omega) (by omega) (by omega) (by omega)).1
    have b3 := (nextR_spec zs 5 3 (by omega) (by omega) (by omega) (by omega)).1
    refine need_mk (allInts_intsV zs) ?_
    exact need_mk (flipN f0) (need_mk (allInts_intsV zs) (need_mk (in5 _ b1.1 b1.2) (need_mk (blt5 _ b1.1 b1.2) (need_mk (allInts_intsV zs) (need_mk (flipN f2) (need_mk (allInts_intsV zs) (need_mk (in5 _ b3.1 b3.2) (need_mk (blt5 _ b3.1 b3.2) (need_mk (allInts_intsV zs) (cut_mk (flipY f4) (need_mk (allInts_intsV zs) (cut_mk (flipY f5) (⟨rfl, rfl, rfl⟩)))))))))))))
  · rintro v g ⟨rfl, h0, hb⟩
    exact ⟨_, _, freezeI _ hb, rfl, (del_ne (i := 0) (b := 7) (by decide)).trans h0⟩
theorem right1011 (zs : List Int) (f0 : nextR (intsV zs) 0 4 ≠ 0) (f2 : nextR (intsV zs) 2 4 = 0) (f3 : nextR (intsV zs) 3 4 ≠ 0) (f5 : nextR (intsV zs) 5 4 ≠ 0) : FnOK 1 Tryz.prog 5 ⟨[.pointer (some ⟨0, 0, none⟩)]⟩ (Ev.h1 (strm (intsV zs) 0))
    (fun u g => u = fz ⟨List.map instV [(⟨#[105, 97]⟩, wtV (nextR (intsV zs) 1 5)), (⟨#[105, 99]⟩, wtV (nextR (intsV zs) 4 5)), (⟨#[105, 100]⟩, wtV (nextR (intsV zs) 6 5))]⟩ ∧ g.get 0 = some (strm (intsV zs) 7)) := by
  refine FnOK.weak1 ((FnOK.ftree (p := 1) SI_ok mixed Tryz.func5 some5 (ri1011 (intsV zs) (fun v o q => v = .slice (some ⟨10, 0, none⟩) 3 3 ∧ o = some (strm (intsV zs) 7) ∧
    q = some (.cells ⟨List.flatMap instC [(⟨#[105, 97]⟩, wtV (nextR (intsV zs) 1 5)), (⟨#[105, 99]⟩, wtV (nextR (intsV zs) 4 5)), (⟨#[105, 100]⟩, wtV (nextR (intsV zs) 6 5))]⟩ 40 (0, 0)))) ?_).mono ?_)
  · have b1 := (nextR_spec zs 5 1 (by omega) (by omega) (by omega) (by omega)).1
    have b4 := (nextR_spec zs 5 4 (by omega) (by omega) (by omega) (by omega)).1
    have b6 := (nextR_spec zs 5 6 (by omega) (by omega) (by omega) (by omega)).1
    refine need_mk (allInts_intsV zs) ?_
    exact need_mk (flipN f0) (need_mk (allInts_intsV zs) (need_mk (in5 _ b1.1 b1.2) (need_mk (blt5 _ b1.1 b1.2) (need_mk (allInts_intsV zs) (cut_mk (flipY f2) (need_mk (allInts_intsV zs) (need_mk (flipN f3) (need_mk (allInts_intsV zs) (need_mk (in5 _ b4.1 b4.2) (need_mk (blt5 _ b4.1 b4.2) (need_mk (allInts_intsV zs) (need_mk (flipN f5) (need_mk (allInts_intsV zs) (need_mk (in5 _ b6.1 b6.2) (need_mk (blt5 _ b6.1 b6.2) (⟨rfl, rfl, rfl⟩))))))))))))))))
  · rintro v g ⟨rfl, h0, hb⟩
    exact ⟨_, _, freezeI _ hb, rfl, (del_ne (i := 0) (b := 10) (by decide)).trans h0⟩
theorem right1010 (zs : List Int) (f0 : nextR (intsV zs) 0 4 ≠ 0) (f2 : nextR (intsV zs) 2 4 = 0) (f3 : nextR (intsV zs) 3 4 ≠ 0) (f5 : nextR (intsV zs) 5 4 = 0) : FnOK 1 Tryz.prog 5 ⟨[.pointer (some ⟨0, 0, none⟩)]⟩ (Ev.h1 (strm (intsV zs) 0))
    (fun u g => u = fz ⟨List.map instV [(⟨#[105, 97]⟩, wtV (nextR (intsV zs) 1 5)), (⟨#[105, 99]⟩, wtV (nextR (intsV zs) 4 5))]⟩ ∧ g.get 0 = some (strm (intsV zs) 6)) := by
  refine FnOK.weak1 ((FnOK.ftree (p := 1) SI_ok mixed Tryz.func5 some5 (ri1010 (intsV zs) (fun v o q => v = .slice (some ⟨7, 0, none⟩) 2 2 ∧ o = some (strm (intsV zs) 6) ∧
    q = some (.cells ⟨List.flatMap instC [(⟨#[105, 97]⟩, wtV (nextR (intsV zs) 1 5)), (⟨#[105, 99]⟩, wtV (nextR (intsV zs) 4 5))]⟩ 40 (0, 0)))) ?_).mono ?_)
  · have b1 := (nextR_spec zs 5 1 (by omega) (by omega) (by omega) (by omega)).1
    have b4 := (nextR_spec zs 5 4 (by omega) (by omega) (by omega) (by omega)).1
    refine need_mk (allInts_intsV zs) ?_
    exact need_mk (flipN f0) (need_mk (allInts_intsV zs) (need_mk (in5 _ b1.1 b1.2) (need_mk (blt5 _ b1.1 b1.2) (need_mk (allInts_intsV zs) (cut_mk (flipY f2) (need_mk (allInts_intsV zs) (need_mk (flipN f3) (need_mk (allInts_intsV zs) (need_mk (in5 _ b4.1 b4.2) (need_mk (blt5 _ b4.1 b4.2) (need_mk (allInts_intsV zs) (cut_mk (flipY f5) (⟨rfl, rfl, rfl⟩)))))))))))))
  · rintro v g ⟨rfl, h0, hb⟩
    exact ⟨_, _, freezeI _ hb, rfl, (del_ne (i := 0) (b := 7) (by decide)).trans h0⟩
theorem right1001 (zs : List Int) (f0 : nextR (intsV zs) 0 4 ≠ 0) (f2 : nextR (intsV zs) 2 4 = 0) (f3 : nextR (intsV zs) 3 4 = 0) (f4 : nextR (intsV zs) 4 4 ≠ 0) : FnOK 1 Tryz.prog 5 ⟨[.pointer (some ⟨0, 0, none⟩)]⟩ (Ev.h1 (strm (intsV zs) 0))
    (fun u g => u = fz ⟨List.map instV [(⟨#[105, 97]⟩, wtV (nextR (intsV zs) 1 5)), (⟨#[105, 100]⟩, wtV (nextR (intsV zs) 5 5))]⟩ ∧ g.get 0 = some (strm (intsV zs) 6)) := by
  refine FnOK.weak1 ((FnOK.ftree (p := 1) SI_ok mixed Tryz.func5 some5 (ri1001 (intsV zs) (fun v o q => v = .slice (some ⟨7, 0, none⟩) 2 2 ∧ o = some (strm (intsV zs) 6) ∧
    q = some (.cells ⟨List.flatMap instC [(⟨#[105, 97]⟩, wtV (nextR (intsV zs) 1 5)), (⟨#[105, 100]⟩, wtV (nextR (intsV zs) 5 5))]⟩ 40 (0, 0)))) ?_).mono ?_)
  · have b1 := (nextR_spec zs 5 1 (by omega) (by omega) (by omega) (by omega)).1
    have b5 := (nextR_spec zs 5 5 (by omega) (by omega) (by omega) (by omega)).1
    refine need_mk (allInts_intsV zs) ?_
    exact need_mk (flipN f0) (need_mk (allInts_intsV zs) (need_mk (in5 _ b1.1 b1.2) (need_mk (blt5 _ b1.1 b1.2) (need_mk (allInts_intsV zs) (cut_mk (flipY f2) (need_mk (allInts_intsV zs) (cut_mk (flipY f3) (need_mk (allInts_intsV zs) (need_mk (flipN f4) (need_mk (allInts_intsV zs) (need_mk (in5 _ b5.1 b5.2) (need_mk (blt5 _ b5.1 b5.2) (⟨rfl, rfl, rfl⟩)))))))))))))
  · rintro v g ⟨rfl, h0, hb⟩
    exact ⟨_, _, freezeI _ hb, rfl, (del_ne (i := 0) (b := 7) (by decide)).trans h0⟩
theorem right1000 (zs : List Int) (f0 : nextR (intsV zs) 0 4 ≠ 0) (f2 : nextR (intsV zs) 2 4 = 0) (f3 : nextR (intsV zs) 3 4 = 0) (f4 : nextR (intsV zs) 4 4 = 0) : FnOK 1 Tryz.prog 5 ⟨[.pointer (some ⟨0, 0, none⟩)]⟩ (Ev.h1 (strm (intsV zs) 0))
    (fun u g => u = fz ⟨List.map instV [(⟨#[105, 97]⟩, wtV (nextR (intsV zs) 1 5))]⟩ ∧ g.get 0 = some (strm (intsV zs) 5)) := by
  refine FnOK.weak1 ((FnOK.ftree (p := 1) SI_ok mixed Tryz.func5 some5 (ri1000 (intsV zs) (fun v o q => v = .slice (some ⟨4, 0, none⟩) 1 1 ∧ o = some (strm (intsV zs) 5) ∧
    q = some (.cells ⟨List.flatMap instC [(⟨#[105, 97]⟩, wtV (nextR (intsV zs) 1 5))]⟩ 40 (0, 0)))) ?_).mono ?_)
  · have b1 := (nextR_spec zs 5 1 (by omega) (by omega) (by omega) (by omega)).1
    refine need_mk (allInts_intsV zs) ?_
    exact need_mk (flipN f0) (need_mk (allInts_intsV zs) (need_mk (in5 _ b1.1 b1.2) (need_mk (blt5 _ b1.1 b1.2) (need_mk (allInts_intsV zs) (cut_mk (flipY f2) (need_mk (allInts_intsV zs) (cut_mk (flipY f3) (need_mk (allInts_intsV zs) (cut_mk (flipY f4) (⟨rfl, rfl, rfl⟩))))))))))
  · rintro v g ⟨rfl, h0, hb⟩
    exact ⟨_, _, freezeI _ hb, rfl, (del_ne (i := 0) (b := 4) (by decide)).trans h0⟩
theorem right0111 (zs : List Int) (f0 : nextR (intsV zs) 0 4 = 0) (f1 : nextR (intsV zs) 1 4 ≠ 0) (f3 : nextR (intsV zs) 3 4 ≠ 0) (f5 : nextR (intsV zs) 5 4 ≠ 0) : FnOK 1 Tryz.prog 5 ⟨[.pointer (some ⟨0, 0, none⟩)]⟩ (Ev.h1 (strm (intsV zs) 0))
    (fun u g => u = fz ⟨List.map instV [(⟨#[105, 98]⟩, wtV (nextR (intsV zs) 2 5)), (⟨#[105, 99]⟩, wtV (nextR (intsV zs) 4 5)), (⟨#[105, 100]⟩, wtV (nextR (intsV zs) 6 5))]⟩ ∧ g.get 0 = some (strm (intsV zs) 7)) := by
  refine FnOK.weak1 ((FnOK.ftree (p := 1) SI_ok mixed Tryz.func5 some5 (ri0111 (intsV zs) (fun v o q => v = .slice (some ⟨10, 0, none⟩) 3 3 ∧ o = some (strm (intsV zs) 7) ∧
    q = some (.cells ⟨List.flatMap instC [(⟨#[105, 98]⟩, wtV (nextR (intsV zs) 2 5)), (⟨#[105, 99]⟩, wtV (nextR (intsV zs) 4 5)), (⟨#[105, 100]⟩, wtV (nextR (intsV zs) 6 5))]⟩ 40 (0, 0)))) ?_).mono ?_)
  · have b2 := (nextR_spec zs 5 2 (by omega) (by omega) (by omega) (by omega)).1
    have b4 := (nextR_spec zs 5 4 (by omega) (by omega) (by omega) (by omega)).1
    have b6 := (nextR_spec zs 5 6 (by omega) (by omega) (by omega) (by omega)).1
    refine need_mk (allInts_intsV zs) ?_
    exact cut_mk (flipY f0) (need_mk (allInts_intsV zs) (need_mk (flipN f1) (need_mk (allInts_intsV zs) (need_mk (in5 _ b2.1 b2.2) (need_mk (blt5 _ b2.1 b2.2) (need_mk (allInts_intsV zs) (need_mk (flipN f3) (need_mk (allInts_intsV zs) (need_mk (in5 _ b4.1 b4.2) (need_mk (blt5 _ b4.1 b4.2) (need_mk (allInts_intsV zs) (need_mk (flipN f5) (need_mk (allInts_intsV zs) (need_mk (in5 _ b6.1 b6.2) (need_mk (blt5 _ b6.1 b6.2) (⟨rfl, rfl, rfl⟩))))))))))))))))
  · rintro v g ⟨rfl, h0, hb⟩
    exact ⟨_, _, freezeI _ hb, rfl, (del_ne (i := 0) (b := 10) (by decide)).trans h0⟩
theorem right0110 (zs : List Int) (f0 : nextR (intsV zs) 0 4 = 0) (f1 : nextR (intsV zs) 1 4 ≠ 0) (f3 : nextR (intsV zs) 3 4 ≠ 0) (f5 : nextR (intsV zs) 5 4 = 0) : FnOK 1 Tryz.prog 5 ⟨[.pointer (some ⟨0, 0, none⟩)]⟩ (Ev.h1 (strm (intsV zs) 0))
    (fun u g => u = fz ⟨List.map instV [(⟨#[105, 98]⟩, wtV (nextR (intsV zs) 2 5)), (⟨#[105, 99]⟩, wtV (nextR (intsV zs) 4 5))]⟩ ∧ g.get 0 = some (strm (intsV zs) 6)) := by
  refine FnOK.weak1 ((FnOK.ftree (p := 1) SI_ok mixed Tryz.func5 some5 (ri0110 (intsV zs) (fun v o q => v = .slice (some ⟨7, 0, none⟩) 2 2 ∧ o = some (strm (intsV zs) 6) ∧
    q = some (.cells ⟨List.flatMap instC [(⟨#[105, 98]⟩, wtV (nextR (intsV zs) 2 5)), (⟨#[105, 99]⟩, wtV (nextR (intsV zs) 4 5))]⟩ 40 (0, 0)))) ?_).mono ?_)
  · have b2 := (nextR_spec zs 5 2 (by omega) (by omega) (by omega) (by omega)).1
    have b4 := (nextR_spec zs 5 4 (by omega) (by omega) (by omega) (by omega)).1
    refine need_mk (allInts_intsV zs) ?_
    exact cut_mk (flipY f0) (need_mk (allInts_intsV zs) (need_mk (flipN f1) (need_mk (allInts_intsV zs) (need_mk (in5 _ b2.1 b2.2) (need_mk (blt5 _ b2.1 b2.2) (need_mk (allInts_intsV zs) (need_mk (flipN f3) (need_mk (allInts_intsV zs) (need_mk (in5 _ b4.1 b4.2) (need_mk (blt5 _ b4.1 b4.2) (need_mk (allInts_intsV zs) (cut_mk (flipY f5) (⟨rfl, rfl, rfl⟩)))))))))))))
  · rintro v g ⟨rfl, h0, hb⟩
    exact ⟨_, _, freezeI _ hb, rfl, (del_ne (i := 0) (b := 7) (by decide)).trans h0⟩
theorem right0101 (zs : List Int) (f0 : nextR (intsV zs) 0 4 = 0) (f1 : nextR (intsV zs) 1 4 ≠ 0) (f3 : nextR (intsV zs) 3 4 = 0) (f4 : nextR (intsV zs) 4 4 ≠ 0) : FnOK 1 Tryz.prog 5 ⟨[.pointer (some ⟨0, 0, none⟩)]⟩ (Ev.h1 (strm (intsV zs) 0))
    (fun u g => u = fz ⟨List.map instV [(⟨#[105, 98]⟩, wtV (nextR (intsV zs) 2 5)), (⟨#[105, 100]⟩, wtV (nextR (intsV zs) 5 5))]⟩ ∧ g.get 0 = some (strm (intsV zs) 6)) := by
  refine FnOK.weak1 ((FnOK.ftree (p := 1) SI_ok mixed Tryz.func5 some5 (ri0101 (intsV zs) (fun v o q => v = .slice (some ⟨7, 0, none⟩) 2 2 ∧ o = some (strm (intsV zs) 6) ∧
    q = some (.cells ⟨List.flatMap instC [(⟨#[105, 98]⟩, wtV (nextR (intsV zs) 2 5)), (⟨#[105, 100]⟩, wtV (nextR (intsV zs) 5 5))]⟩ 40 (0, 0)))) ?_).mono ?_)
  · have b2 := (nextR_spec zs 5 2 (by omega) (by omega) (by omega) (by omega)).1
    have b5 := (nextR_spec zs 5 5 (by omega) (by omega) (by omega) (by omega)).1
    refine need_mk (allInts_intsV zs) ?_
    exact cut_mk (flipY f0) (need_mk (allInts_intsV zs) (need_mk (flipN f1) (need_mk (allInts_intsV zs) (need_mk (in5 _ b2.1 b2.2) (need_mk (blt5 _ b2.1 b2.2) (need_mk (allInts_intsV zs) (cut_mk (flipY f3) (need_mk (allInts_intsV zs) (need_mk (flipN f4) (need_mk (allInts_intsV zs) (need_mk (in5 _ b5.1 b5.2) (need_mk (blt5 _ b5.1 b5.2) (⟨rfl, rfl, rfl⟩)))))))))))))
  · rintro v g ⟨rfl, h0, hb⟩
    exact ⟨_, _, freezeI _ hb, rfl, (del_ne (i := 0) (b := 7) (by decide)).trans h0⟩
theorem right0100 (zs : List Int) (f0 : nextR (intsV zs) 0 4 = 0) (f1 : nextR (intsV zs) 1 4 ≠ 0) (f3 : nextR (intsV zs) 3 4 = 0) (f4 : nextR (intsV zs) 4 4 = 0) : FnOK 1 Tryz.prog 5 ⟨[.pointer (some ⟨0, 0, none⟩)]⟩ (Ev.h1 (strm (intsV zs) 0))
    (fun u g => u = fz ⟨List.map instV [(⟨#[105, 98]⟩, wtV (nextR (intsV zs) 2 5))]⟩ ∧ g.get 0 = some (strm (intsV zs) 5)) := by
  refine FnOK.weak1 ((FnOK.ftree (p := 1) SI_ok mixed Tryz.func5 some5 (ri0100 (intsV zs) (fun v o q => v = .slice (some ⟨4, 0, none⟩) 1 1 ∧ o = some (strm (intsV zs) 5) ∧
    q = some (.cells ⟨List.flatMap instC [(⟨#[105, 98]⟩, wtV (nextR (intsV zs) 2 5))]⟩ 40 (0, 0)))) ?_).mono ?_)
  · have b2 := (nextR_spec zs 5 2 (by omega) (by omega) (by omega) (by omega)).1
    refine need_mk (allInts_intsV zs) ?_
    exact cut_mk (flipY f0) (need_mk (allInts_intsV zs) (need_mk (flipN f1) (need_mk (allInts_intsV zs) (need_mk (in5 _ b2.1 b2.2) (need_mk (blt5 _ b2.1 b2.2) (need_mk (allInts_intsV zs) (cut_mk (flipY f3) (need_mk (allInts_intsV zs) (cut_mk (flipY f4) (⟨rfl, rfl, rfl⟩))))))))))
  · rintro v g ⟨rfl, h0, hb⟩
    exact ⟨_, _, freezeI _ hb, rfl, (del_ne (i := 0) (b := 4) (by decide)).trans h0⟩
theorem right0011 (zs : List Int) (f0 : nextR (intsV zs) 0 4 = 0) (f1 : nextR (intsV zs) 1 4 = 0) (f2 : nextR (intsV zs) 2 4 ≠ 0) (f4 : nextR (intsV zs) 4 4 ≠ 0) : FnOK 1 Tryz.prog 5 ⟨[.pointer (some ⟨0, 0, none⟩)]⟩ (Ev.h1 (strm (intsV zs) 0))
    (fun u g => u = fz ⟨List.map instV [(⟨#[105, 99]⟩, wtV (nextR (intsV zs) 3 5)), (⟨#[105, 100]⟩, wtV (nextR (intsV zs) 5 5))]⟩ ∧ g.get 0 = some (strm (intsV zs) 6)) := by
  refine FnOK.weak1 ((FnOK.ftree (p := 1) SI_ok mixed Tryz.func5 some5 (ri0011 (intsV zs) (fun v o q => v = .slice (some ⟨7, 0, none⟩) 2 2 ∧ o = some (strm (intsV zs) 6) ∧
    q = some (.cells ⟨List.flatMap instC [(⟨#[105, 99]⟩, wtV (nextR (intsV zs) 3 5)), (⟨#[105, 100]⟩, wtV (nextR (intsV zs) 5 5))]⟩ 40 (0, 0)))) ?_).mono ?_)
  · have b3 := (nextR_spec zs 5 3 (by omega) (by omega) (by omega) (by omega)).1
    have b5 := (nextR_spec zs 5 5 (by omega) (by omega) (by omega) (by omega)).1
    refine need_mk (allInts_intsV zs) ?_
    exact cut_mk (flipY f0) (need_mk (allInts_intsV zs) (cut_mk (flipY f1) (need_mk (allInts_intsV zs) (need_mk (flipN f2) (need_mk (allInts_intsV zs) (need_mk (in5 _ b3.1 b3.2) (need_mk (blt5 _ b3.1 b3.2) (need_mk (allInts_intsV zs) (need_mk (flipN f4) (need_mk (allInts_intsV zs) (need_mk (in5 _ b5.1 b5.2) (need_mk (blt5 _ b5.1 b5.2) (⟨rfl, rfl, rfl⟩)))))))))))))
  · rintro v g ⟨rfl, h0, hb⟩
    exact ⟨_, _, freezeI _ hb, rfl, (del_ne (i := 0) (b := 7) (by decide)).trans h0⟩
theorem right0010 (zs : List Int) (f0 : nextR (intsV zs) 0 4 = 0) (f1 : nextR (intsV zs) 1 4 = 0) (f2 : nextR (intsV zs) 2 4 ≠ 0) (f4 : nextR (intsV zs) 4 4 = 0) : FnOK 1 Tryz.prog 5 ⟨[.pointer (some ⟨0, 0, none⟩)]⟩ (Ev.h1 (strm (intsV zs) 0))
    (fun u g => u = fz ⟨List.map instV [(⟨#[105, 99]⟩, wtV (nextR (intsV zs) 3 5))]⟩ ∧ g.get 0 = some (strm (intsV zs) 5)) := by
  refine FnOK.weak1 ((FnOK.ftree (p := 1) SI_ok mixed Tryz.func5 some5 (ri0010 (intsV zs) (fun v o q => v = .slice (some ⟨4, 0, none⟩) 1 1 ∧ o = some (strm (intsV zs) 5) ∧
    q = some (.cells ⟨List.flatMap instC [(⟨#[105, 99]⟩, wtV (nextR (intsV zs) 3 5))]⟩ 40 (0, 0)))) ?_).mono ?_)
  · have b3 := (nextR_spec zs 5 3 (by omega) (by omega) (by omega) (by omega)).1
    refine need_mk (allInts_intsV zs) ?_
    exact cut_mk (flipY f0) (need_mk (allInts_intsV zs) (cut_mk (flipY f1) (need_mk (allInts_intsV zs) (need_mk (flipN f2) (need_mk (allInts_intsV zs) (need_mk (in5 _ b3.1 b3.2) (need_mk (blt5 _ b3.1 b3.2) (need_mk (allInts_intsV zs) (cut_mk (flipY f4) (⟨rfl, rfl, rfl⟩))))))))))
  · rintro v g ⟨rfl, h0, hb⟩
    exact ⟨_, _, freezeI _ hb, rfl, (del_ne (i := 0) (b := 4) (by decide)).trans h0⟩
theorem right0001 (zs : List Int) (f0 : nextR (intsV zs) 0 4 = 0) (f1 : nextR (intsV zs) 1 4 = 0) (f2 : nextR (intsV zs) 2 4 = 0) : FnOK 1 Tryz.prog 5 ⟨[.pointer (some ⟨0, 0, none⟩)]⟩ (Ev.h1 (strm (intsV zs) 0))
    (fun u g => u = fz ⟨List.map instV [(⟨#[105, 100]⟩, wtV (nextR (intsV zs) 3 5))]⟩ ∧ g.get 0 = some (strm (intsV zs) 4)) := by
  refine FnOK.weak1 ((FnOK.ftree (p := 1) SI_ok mixed Tryz.func5 some5 (ri0001 (intsV zs) (fun v o q => v = .slice (some ⟨4, 0, none⟩) 1 1 ∧ o = some (strm (intsV zs) 4) ∧
    q = some (.cells ⟨List.flatMap instC [(⟨#[105, 100]⟩, wtV (nextR (intsV zs) 3 5))]⟩ 40 (0, 0)))) ?_).mono ?_)
  · have b3 := (nextR_spec zs 5 3 (by omega) (by omega) (by omega) (by omega)).1
    refine need_mk (allInts_intsV zs) ?_
    exact cut_mk (flipY f0) (need_mk (allInts_intsV zs) (cut_mk (flipY f1) (need_mk (allInts_intsV zs) (cut_mk (flipY f2) (need_mk (allInts_intsV zs) (need_mk (in5 _ b3.1 b3.2) (need_mk (blt5 _ b3.1 b3.2) (⟨rfl, rfl, rfl⟩))))))))
  · rintro v g ⟨rfl, h0, hb⟩
    exact ⟨_, _, freezeI _ hb, rfl, (del_ne (i := 0) (b := 4) (by decide)).trans h0⟩
def flipOk (r : Int) (b : Bool) : Bool := cond b (!decide (r = 0)) (decide (r = 0))
noncomputable def picked (xs : Array Value) (ps : List (ByteArray × Int)) : List (ByteArray × Int) := ps.map fun p => (p.1, wtV (nextR xs p.2 5))
noncomputable def wOk (xs : Array Value) (q : (ByteArray × Int) × Int) : Bool := decide (wtV (nextR xs q.1.2 5) = q.2)
theorem picked_eq {xs : Array Value} : ∀ (ps : List (ByteArray × Int)) (ws : List Int), ps.length = ws.length → (ps.zip ws).all (wOk xs) = true → (ps.map Prod.fst).zip ws = picked xs ps
  | [], [], _, _ => rfl
  | p :: ps, w :: ws, h, h2 => by
    simp only [List.zip_cons_cons, List.all_cons, Bool.and_eq_true] at h2
    have ih := picked_eq ps ws (by simpa using h) h2.2
    have e : wtV (nextR xs p.2 5) = w := of_decide_eq_true h2.1
    simp only [picked, List.map_cons, List.zip_cons_cons] at ih ⊢
    rw [ih, e]
noncomputable def spRight (fl : List (Int × Bool)) (ps : List (ByteArray × Int)) (ws : List Int) (last : Int) (f : FuncId) (args : Array Value) (h : AH) : Option (Bool × Value × AH) :=
  cond (Nat.beq f 5) (match args with
    | ⟨[.pointer (some ⟨b, 0, none⟩)]⟩ => match h.get b with
      | some (.cells ⟨[.func (.yield 0) xs ⟨[]⟩, .int .i64 at_]⟩ t (0, 0)) =>
        some (Nat.beq t 25 && decide (at_ = 0) && allInts xs && fl.all (fun p => flipOk (nextR xs p.1 4) p.2) && Nat.beq ps.length ws.length && (ps.zip ws).all (wOk xs), fz ⟨((ps.map Prod.fst).zip ws).map instV⟩, h.set b (.cells ⟨[fz xs, .int .i64 last]⟩ 25 (0, 0)))
      | _ => none
    | _ => none) none

theorem spRight_ok {fl : List (Int × Bool)} {ps : List (ByteArray × Int)} {ws : List Int} {last : Int}
    (hR : ∀ zs : List Int, fl.all (fun p => flipOk (nextR (intsV zs) p.1 4) p.2) = true → FnOK 1 Tryz.prog 5 ⟨[.pointer (some ⟨0, 0, none⟩)]⟩ (Ev.h1 (strm (intsV zs) 0))
      (fun u g => u = fz ⟨(picked (intsV zs) ps).map instV⟩ ∧ g.get 0 = some (strm (intsV zs) last))) : SpOK (spRight fl ps ws last) := by
  intro f args h v h' hs
  unfold spRight at hs
  obtain ⟨hf, hs2⟩ := cond_some hs
  clear hs
  have hs := hs2
  clear hs2
  have := Nat.eq_of_beq_eq_true hf
  subst this
  split at hs
  · rename_i b
    split at hs
    · rename_i xs at_ t hg
      injection hs with hs
      injection hs with hb hs
      injection hs with hv hh
      subst hv hh
      rw [Bool.and_eq_true, Bool.and_eq_true, Bool.and_eq_true, Bool.and_eq_true, Bool.and_eq_true] at hb
      obtain ⟨⟨⟨⟨⟨b0, b1⟩, b2⟩, b3⟩, b4⟩, b5⟩ := hb
      rw [picked_eq ps ws (Nat.eq_of_beq_eq_true b4) b5]
      have b0 := Nat.eq_of_beq_eq_true b0
      subst b0
      have b1 : at_ = 0 := of_decide_eq_true b1
      subst b1
      obtain ⟨zs, rfl⟩ := intsV_of_all b2
      refine ⟨?_, Nat.le_refl _⟩
      exact FnOK.ref (cs := ⟨[fz (intsV zs), .int .i64 0]⟩) (cs' := ⟨[fz (intsV zs), .int .i64 last]⟩) (args := []) (hR zs b3) rfl (by simp [p1, fz]) (by simp [p1, fz]) rfl hg
    · cases hs
  · cases hs

theorem flipOk_t {r : Int} (h : flipOk r true = true) : r ≠ 0 := by simpa [flipOk] using h
theorem flipOk_f {r : Int} (h : flipOk r false = true) : r = 0 := by simpa [flipOk] using h
theorem spRight1111 (ws : List Int) : SpOK (spRight [(0, true), (2, true), (4, true), (6, true)] [(⟨#[105, 97]⟩, 1), (⟨#[105, 98]⟩, 3), (⟨#[105, 99]⟩, 5), (⟨#[105, 100]⟩, 7)] ws 8) := by
  refine spRight_ok ?_
  intro zs hf
  simp only [List.all_cons, List.all_nil, Bool.and_true, Bool.and_eq_true] at hf
  obtain ⟨g0, g2, g4, g6⟩ := hf
  exact right1111 zs (flipOk_t g0) (flipOk_t g2) (flipOk_t g4) (flipOk_t g6)
theorem spRight1110 (ws : List Int) : SpOK (spRight [(0, true), (2, true), (4, true), (6, false)] [(⟨#[105, 97]⟩, 1), (⟨#[105, 98]⟩, 3), (⟨#[105, 99]⟩, 5)] ws 7) := by
  refine spRight_ok ?_
  intro zs hf
  simp only [List.all_cons, List.all_nil, Bool.and_true, Bool.and_eq_true] at hf
  obtain ⟨g0, g2, g4, g6⟩ := hf
  exact right1110 zs (flipOk_t g0) (flipOk_t g2) (flipOk_t g4) (flipOk_f g6)
theorem spRight1101 (ws : List Int) : SpOK (spRight [(0, true), (2, true), (4, false), (5, true)] [(⟨#[105, 97]⟩, 1), (⟨#[105, 98]⟩, 3), (⟨#[105, 100]⟩, 6)] ws 7) := by
  refine spRight_ok ?_
  intro zs hf
  simp only [List.all_cons, List.all_nil, Bool.and_true, Bool.and_eq_true] at hf
  obtain ⟨g0, g2, g4, g5⟩ := hf
  exact right1101 zs (flipOk_t g0) (flipOk_t g2) (flipOk_f g4) (flipOk_t g5)
theorem spRight1100 (ws : List Int) : SpOK (spRight [(0, true), (2, true), (4, false), (5, false)] [(⟨#[105, 97]⟩, 1), (⟨#[105, 98]⟩, 3)] ws 6) := by
  refine spRight_ok ?_
  intro zs hf
  simp only [List.all_cons, List.all_nil, Bool.and_true, Bool.and_eq_true] at hf
  obtain ⟨g0, g2, g4, g5⟩ := hf
  exact right1100 zs (flipOk_t g0) (flipOk_t g2) (flipOk_f g4) (flipOk_f g5)
theorem spRight1011 (ws : List Int) : SpOK (spRight [(0, true), (2, false), (3, true), (5, true)] [(⟨#[105, 97]⟩, 1), (⟨#[105, 99]⟩, 4), (⟨#[105, 100]⟩, 6)] ws 7) := by
  refine spRight_ok ?_
  intro zs hf
  simp only [List.all_cons, List.all_nil, Bool.and_true, Bool.and_eq_true] at hf
  obtain ⟨g0, g2, g3, g5⟩ := hf
  exact right1011 zs (flipOk_t g0) (flipOk_f g2) (flipOk_t g3) (flipOk_t g5)
theorem spRight1010 (ws : List Int) : SpOK (spRight [(0, true), (2, false), (3, true), (5, false)] [(⟨#[105, 97]⟩, 1), (⟨#[105, 99]⟩, 4)] ws 6) := by
  refine spRight_ok ?_
  intro zs hf
  simp only [List.all_cons, List.all_nil, Bool.and_true, Bool.and_eq_true] at hf
  obtain ⟨g0, g2, g3, g5⟩ := hf
  exact right1010 zs (flipOk_t g0) (flipOk_f g2) (flipOk_t g3) (flipOk_f g5)
theorem spRight1001 (ws : List Int) : SpOK (spRight [(0, true), (2, false), (3, false), (4, true)] [(⟨#[105, 97]⟩, 1), (⟨#[105, 100]⟩, 5)] ws 6) := by
  refine spRight_ok ?_
  intro zs hf
  simp only [List.all_cons, List.all_nil, Bool.and_true, Bool.and_eq_true] at hf
  obtain ⟨g0, g2, g3, g4⟩ := hf
  exact right1001 zs (flipOk_t g0) (flipOk_f g2) (flipOk_f g3) (flipOk_t g4)
theorem spRight1000 (ws : List Int) : SpOK (spRight [(0, true), (2, false), (3, false), (4, false)] [(⟨#[105, 97]⟩, 1)] ws 5) := by
  refine spRight_ok ?_
  intro zs hf
  simp only [List.all_cons, List.all_nil, Bool.and_true, Bool.and_eq_true] at hf
  obtain ⟨g0, g2, g3, g4⟩ := hf
  exact right1000 zs (flipOk_t g0) (flipOk_f g2) (flipOk_f g3) (flipOk_f g4)
theorem spRight0111 (ws : List Int) : SpOK (spRight [(0, false), (1, true), (3, true), (5, true)] [(⟨#[105, 98]⟩, 2), (⟨#[105, 99]⟩, 4), (⟨#[105, 100]⟩, 6)] ws 7) := by
  refine spRight_ok ?_
  intro zs hf
  simp only [List.all_cons, List.all_nil, Bool.and_true, Bool.and_eq_true] at hf
  obtain ⟨g0, g1, g3, g5⟩ := hf
  exact right0111 zs (flipOk_f g0) (flipOk_t g1) (flipOk_t g3) (flipOk_t g5)
theorem spRight0110 (ws : List Int) : SpOK (spRight [(0, false), (1, true), (3, true), (5, false)] [(⟨#[105, 98]⟩, 2), (⟨#[105, 99]⟩, 4)] ws 6) := by
  refine spRight_ok ?_
  intro zs hf
  simp only [List.all_cons, List.all_nil, Bool.and_true, Bool.and_eq_true] at hf
  obtain ⟨g0, g1, g3, g5⟩ := hf
  exact right0110 zs (flipOk_f g0) (flipOk_t g1) (flipOk_t g3) (flipOk_f g5)
theorem spRight0101 (ws : List Int) : SpOK (spRight [(0, false), (1, true), (3, false), (4, true)] [(⟨#[105, 98]⟩, 2), (⟨#[105, 100]⟩, 5)] ws 6) := by
  refine spRight_ok ?_
  intro zs hf
  simp only [List.all_cons, List.all_nil, Bool.and_true, Bool.and_eq_true] at hf
  obtain ⟨g0, g1, g3, g4⟩ := hf
  exact right0101 zs (flipOk_f g0) (flipOk_t g1) (flipOk_f g3) (flipOk_t g4)
theorem spRight0100 (ws : List Int) : SpOK (spRight [(0, false), (1, true), (3, false), (4, false)] [(⟨#[105, 98]⟩, 2)] ws 5) := by
  refine spRight_ok ?_
  intro zs hf
  simp only [List.all_cons, List.all_nil, Bool.and_true, Bool.and_eq_true] at hf
  obtain ⟨g0, g1, g3, g4⟩ := hf
  exact right0100 zs (flipOk_f g0) (flipOk_t g1) (flipOk_f g3) (flipOk_f g4)
theorem spRight0011 (ws : List Int) : SpOK (spRight [(0, false), (1, false), (2, true), (4, true)] [(⟨#[105, 99]⟩, 3), (⟨#[105, 100]⟩, 5)] ws 6) := by
  refine spRight_ok ?_
  intro zs hf
  simp only [List.all_cons, List.all_nil, Bool.and_true, Bool.and_eq_true] at hf
  obtain ⟨g0, g1, g2, g4⟩ := hf
  exact right0011 zs (flipOk_f g0) (flipOk_f g1) (flipOk_t g2) (flipOk_t g4)
theorem spRight0010 (ws : List Int) : SpOK (spRight [(0, false), (1, false), (2, true), (4, false)] [(⟨#[105, 99]⟩, 3)] ws 5) := by
  refine spRight_ok ?_
  intro zs hf
  simp only [List.all_cons, List.all_nil, Bool.and_true, Bool.and_eq_true] at hf
  obtain ⟨g0, g1, g2, g4⟩ := hf
  exact right0010 zs (flipOk_f g0) (flipOk_f g1) (flipOk_t g2) (flipOk_f g4)
theorem spRight0001 (ws : List Int) : SpOK (spRight [(0, false), (1, false), (2, false)] [(⟨#[105, 100]⟩, 3)] ws 4) := by
  refine spRight_ok ?_
  intro zs hf
  simp only [List.all_cons, List.all_nil, Bool.and_true, Bool.and_eq_true] at hf
  obtain ⟨g0, g1, g2⟩ := hf
  exact right0001 zs (flipOk_f g0) (flipOk_f g1) (flipOk_f g2)
end Go.Proofs.YtbeodpcdjlphkaaGreatDoor
