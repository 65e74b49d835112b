/-
  What headers say about caches: 'told', a part each.
-/
import Derived.Test.YtbeodpcdjlphkaaGreatDoorCcT0
import Derived.Test.YtbeodpcdjlphkaaGreatDoorCcT1
import Derived.Test.YtbeodpcdjlphkaaGreatDoorCcT2
import Derived.Test.YtbeodpcdjlphkaaGreatDoorCcT3
import Derived.Test.YtbeodpcdjlphkaaGreatDoorCcT4
namespace Go.Proofs.YtbeodpcdjlphkaaGreatDoor
open Go.Ev Go.RowKit CtrlLaw

theorem to_n0 : ∀ v : Nat, v < 51 → ToOK (.num 0 v)
  | 0, _ => to_n0_0
  | 1, _ => to_n0_1
  | 2, _ => to_n0_2
  | 3, _ => to_n0_3
  | 4, _ => to_n0_4
  | 5, _ => to_n0_5
  | 6, _ => to_n0_6
  | 7, _ => to_n0_7
  | 8, _ => to_n0_8
  | 9, _ => to_n0_9
  | 10, _ => to_n0_10
  | 11, _ => to_n0_11
  | 12, _ => to_n0_12
  | 13, _ => to_n0_13
  | 14, _ => to_n0_14
  | 15, _ => to_n0_15
  | 16, _ => to_n0_16
  | 17, _ => to_n0_17
  | 18, _ => to_n0_18
  | 19, _ => to_n0_19
  | 20, _ => to_n0_20
  | 21, _ => to_n0_21
  | 22, _ => to_n0_22
  | 23, _ => to_n0_23
  | 24, _ => to_n0_24
  | 25, _ => to_n0_25
  | 26, _ => to_n0_26
  | 27, _ => to_n0_27
  | 28, _ => to_n0_28
  | 29, _ => to_n0_29
  | 30, _ => to_n0_30
  | 31, _ => to_n0_31
  | 32, _ => to_n0_32
  | 33, _ => to_n0_33
  | 34, _ => to_n0_34
  | 35, _ => to_n0_35
  | 36, _ => to_n0_36
  | 37, _ => to_n0_37
  | 38, _ => to_n0_38
  | 39, _ => to_n0_39
  | 40, _ => to_n0_40
  | 41, _ => to_n0_41
  | 42, _ => to_n0_42
  | 43, _ => to_n0_43
  | 44, _ => to_n0_44
  | 45, _ => to_n0_45
  | 46, _ => to_n0_46
  | 47, _ => to_n0_47
  | 48, _ => to_n0_48
  | 49, _ => to_n0_49
  | 50, _ => to_n0_50
  | v + 51, h => absurd h (by omega)
theorem to_n1 : ∀ v : Nat, v < 51 → ToOK (.num 1 v)
  | 0, _ => to_n1_0
  | 1, _ => to_n1_1
  | 2, _ => to_n1_2
  | 3, _ => to_n1_3
  | 4, _ => to_n1_4
  | 5, _ => to_n1_5
  | 6, _ => to_n1_6
  | 7, _ => to_n1_7
  | 8, _ => to_n1_8
  | 9, _ => to_n1_9
  | 10, _ => to_n1_10
  | 11, _ => to_n1_11
  | 12, _ => to_n1_12
  | 13, _ => to_n1_13
  | 14, _ => to_n1_14
  | 15, _ => to_n1_15
  | 16, _ => to_n1_16
  | 17, _ => to_n1_17
  | 18, _ => to_n1_18
  | 19, _ => to_n1_19
  | 20, _ => to_n1_20
  | 21, _ => to_n1_21
  | 22, _ => to_n1_22
  | 23, _ => to_n1_23
  | 24, _ => to_n1_24
  | 25, _ => to_n1_25
  | 26, _ => to_n1_26
  | 27, _ => to_n1_27
  | 28, _ => to_n1_28
  | 29, _ => to_n1_29
  | 30, _ => to_n1_30
  | 31, _ => to_n1_31
  | 32, _ => to_n1_32
  | 33, _ => to_n1_33
  | 34, _ => to_n1_34
  | 35, _ => to_n1_35
  | 36, _ => to_n1_36
  | 37, _ => to_n1_37
  | 38, _ => to_n1_38
  | 39, _ => to_n1_39
  | 40, _ => to_n1_40
  | 41, _ => to_n1_41
  | 42, _ => to_n1_42
  | 43, _ => to_n1_43
  | 44, _ => to_n1_44
  | 45, _ => to_n1_45
  | 46, _ => to_n1_46
  | 47, _ => to_n1_47
  | 48, _ => to_n1_48
  | 49, _ => to_n1_49
  | 50, _ => to_n1_50
  | v + 51, h => absurd h (by omega)
theorem to_n2 : ∀ v : Nat, v < 4 → ToOK (.num 2 v)
  | 0, _ => to_n2_0
  | 1, _ => to_n2_1
  | 2, _ => to_n2_2
  | 3, _ => to_n2_3
  | v + 4, h => absurd h (by omega)
theorem to_n3 : ∀ v : Nat, v < 4 → ToOK (.num 3 v)
  | 0, _ => to_n3_0
  | 1, _ => to_n3_1
  | 2, _ => to_n3_2
  | 3, _ => to_n3_3
  | v + 4, h => absurd h (by omega)
theorem to_n4 : ∀ v : Nat, v < 4 → ToOK (.num 4 v)
  | 0, _ => to_n4_0
  | 1, _ => to_n4_1
  | 2, _ => to_n4_2
  | 3, _ => to_n4_3
  | v + 4, h => absurd h (by omega)
theorem to_n5 : ∀ v : Nat, v < 4 → ToOK (.num 5 v)
  | 0, _ => to_n5_0
  | 1, _ => to_n5_1
  | 2, _ => to_n5_2
  | 3, _ => to_n5_3
  | v + 4, h => absurd h (by omega)
theorem to_all : ∀ q ∈ allQ, ToOK q := by
  intro q hq
  rcases List.mem_append.1 hq with h | h
  · obtain ⟨i, hi, rfl⟩ := List.mem_map.1 h
    have hi := List.mem_range.1 hi
    match i, hi with
    | 0, _ => exact to_f0
    | 1, _ => exact to_f1
    | 2, _ => exact to_f2
    | 3, _ => exact to_f3
    | 4, _ => exact to_f4
    | 5, _ => exact to_f5
    | i + 6, hi => omega
  · obtain ⟨i, hi, h⟩ := List.mem_flatMap.1 h
    obtain ⟨v, hv, rfl⟩ := List.mem_map.1 h
    have hi := List.mem_range.1 hi
    have hv := List.mem_range.1 hv
    match i, hi, hv with
    | 0, _, hv => exact to_n0 v hv
    | 1, _, hv => exact to_n1 v hv
    | 2, _, hv => exact to_n2 v hv
    | 3, _, hv => exact to_n3 v hv
    | 4, _, hv => exact to_n4 v hv
    | 5, _, hv => exact to_n5 v hv
    | i + 6, hi, _ => omega
end Go.Proofs.YtbeodpcdjlphkaaGreatDoor
