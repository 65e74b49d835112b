/-
  The symbolic evaluation of 'SwitchesProtect', one text for each number of fails and of probes.
-/
import Derived.Test.YtknllcjhbgdjjaaGreatDoorDraw
namespace Go.Proofs.YtknllcjhbgdjjaaGreatDoor
open Go.Ev Go.RowKit
noncomputable def spL (known : List (Option Int)) : Ev.Spec := spOr spReady (spNext known)
noncomputable def SL (known : List (Option Int)) : SC := ⟨fun _ => false, spL known⟩
theorem SL_ok (known : List (Option Int)) : (SL known).cfg.OK Tryz.prog := (SpOK.or spReady_ok (spNext_ok known)).cfg
theorem some5 : Tryz.f5.body.isSome = true := by kernel_rfl
theorem sw00 (xs : Array Value) (Q : Value → Prop) : (sfn Tryz.prog (SL [some 0, none, some 0]) [(213037, false), (573180, false), (221474, true), (221476, false), (865745, false), (680815, true), (680817, false), (105271, false), (934341, false), (66260, false), (54061, true), (54063, false), (675957, false), (592966, false), (871961, true), (871963, false), (30779, false), (578768, true), (19844, true), (19846, false), (615233, false), (183711, true), (183713, false), (695095, false), (81072, true), (81074, false), (513295, false)] 150 [] Tryz.f5 [fz xs] h0 (fun v _ => Q v)) =
    bif decide (nextR xs 0 3 = 0) && allInts xs then
      bif allInts xs then
        bif decide (nextR xs 2 2 = 0) && allInts xs then
          bif decide (IntKind.i64.wrap (1 + nextR xs 1 50) < 1) then False
          else
            bif decide (IntKind.i64.wrap (1 + nextR xs 1 50) > 3600000) then False
            else
              bif allInts xs then
                bif decide (IntKind.i64.wrap (0 + nextR xs 3 101) ≥ 0) then
                  bif !decide (IntKind.i64.wrap (0 + nextR xs 3 101) < 345686400000) then False
                  else
                    bif decide (IntKind.i64.wrap (0 + nextR xs 3 101) < 0) then False
                    else
                      bif decide (IntKind.i64.wrap (0 + nextR xs 3 101) ≥ 0) then
                        bif !decide (IntKind.i64.wrap (0 + nextR xs 3 101) < 345686400000) then False
                        else
                          bif decide (IntKind.i64.wrap (0 + nextR xs 3 101) < IntKind.i64.wrap (0 + nextR xs 3 101)) then
                            False
                          else
                            bif
                                decide
                                  (IntKind.i64.wrap (0 + nextR xs 3 101) ≤
                                    IntKind.i64.wrap (IntKind.i64.wrap (0 + nextR xs 3 101) - 1000)) then
                              False
                            else
                              bif decide (IntKind.i64.wrap (IntKind.i64.wrap (1 + nextR xs 1 50) - 1) < 0) then False
                              else
                                bif
                                    decide
                                            (1 ≤
                                              IntKind.i64.wrap
                                                (IntKind.i64.wrap
                                                    (IntKind.i64.wrap (IntKind.i64.wrap (1 + nextR xs 1 50) - 1) - 0) +
                                                  1)) &&
                                          decide
                                            (IntKind.i64.wrap
                                                (IntKind.i64.wrap
                                                    (IntKind.i64.wrap (IntKind.i64.wrap (1 + nextR xs 1 50) - 1) - 0) +
                                                  1) ≤
                                              1000000000) &&
                                        true &&
                                      allInts xs then
                                  bif
                                      decide
                                        (IntKind.i64.wrap
                                            (IntKind.i64.wrap (0 + nextR xs 3 101) +
                                              IntKind.i64.wrap
                                                (0 +
                                                  nextR xs 4
                                                    (IntKind.i64.wrap
                                                      (IntKind.i64.wrap
                                                          (IntKind.i64.wrap (IntKind.i64.wrap (1 + nextR xs 1 50) - 1) -
                                                            0) +
                                                        1)))) ≥
                                          0) then
                                    bif
                                        !decide
                                            (IntKind.i64.wrap
                                                (IntKind.i64.wrap (0 + nextR xs 3 101) +
                                                  IntKind.i64.wrap
                                                    (0 +
                                                      nextR xs 4
                                                        (IntKind.i64.wrap
                                                          (IntKind.i64.wrap
                                                              (IntKind.i64.wrap (IntKind.i64.wrap (1 + nextR xs 1 50) - 1) -
                                                                0) +
                                                            1)))) <
                                              345686400000) then
                                      False
                                    else
                                      bif
                                          decide
                                            (IntKind.i64.wrap
                                                (IntKind.i64.wrap (0 + nextR xs 3 101) +
                                                  IntKind.i64.wrap
                                                    (0 +
                                                      nextR xs 4
                                                        (IntKind.i64.wrap
                                                          (IntKind.i64.wrap
                                                              (IntKind.i64.wrap (IntKind.i64.wrap (1 + nextR xs 1 50) - 1) -
                                                                0) +
                                                            1)))) <
                                              IntKind.i64.wrap (0 + nextR xs 3 101)) then
                                        False
                                      else
                                        bif
                                            decide
                                              (IntKind.i64.wrap
                                                  (IntKind.i64.wrap (0 + nextR xs 3 101) +
                                                    IntKind.i64.wrap
                                                      (0 +
                                                        nextR xs 4
                                                          (IntKind.i64.wrap
                                                            (IntKind.i64.wrap
                                                                (IntKind.i64.wrap
                                                                    (IntKind.i64.wrap (1 + nextR xs 1 50) - 1) -
                                                                  0) +
                                                              1)))) ≥
                                                IntKind.i64.wrap
                                                  (IntKind.i64.wrap (0 + nextR xs 3 101) +
                                                    IntKind.i64.wrap (1 + nextR xs 1 50))) then
                                          False
                                        else
                                          bif
                                              decide
                                                (IntKind.i64.wrap
                                                    (IntKind.i64.wrap (0 + nextR xs 3 101) +
                                                      IntKind.i64.wrap (1 + nextR xs 1 50)) ≥
                                                  0) then
                                            bif
                                                !decide
                                                    (IntKind.i64.wrap
                                                        (IntKind.i64.wrap (0 + nextR xs 3 101) +
                                                          IntKind.i64.wrap (1 + nextR xs 1 50)) <
                                                      345686400000) then
                                              False
                                            else
                                              bif
                                                  decide
                                                    (IntKind.i64.wrap
                                                        (IntKind.i64.wrap (0 + nextR xs 3 101) +
                                                          IntKind.i64.wrap (1 + nextR xs 1 50)) <
                                                      IntKind.i64.wrap
                                                        (IntKind.i64.wrap (0 + nextR xs 3 101) +
                                                          IntKind.i64.wrap
                                                            (0 +
                                                              nextR xs 4
                                                                (IntKind.i64.wrap
                                                                  (IntKind.i64.wrap
                                                                      (IntKind.i64.wrap
                                                                          (IntKind.i64.wrap (1 + nextR xs 1 50) - 1) -
                                                                        0) +
                                                                    1))))) then
                                                False
                                              else
                                                bif
                                                    decide
                                                      (IntKind.i64.wrap
                                                          (IntKind.i64.wrap (0 + nextR xs 3 101) +
                                                            IntKind.i64.wrap (1 + nextR xs 1 50)) ≥
                                                        IntKind.i64.wrap
                                                          (IntKind.i64.wrap (0 + nextR xs 3 101) +
                                                            IntKind.i64.wrap (1 + nextR xs 1 50))) then
                                                  bif
                                                      decide
                                                        (IntKind.i64.wrap
                                                            (IntKind.i64.wrap (0 + nextR xs 3 101) +
                                                              IntKind.i64.wrap (1 + nextR xs 1 50)) ≥
                                                          0) then
                                                    bif
                                                        !decide
                                                            (IntKind.i64.wrap
                                                                (IntKind.i64.wrap (0 + nextR xs 3 101) +
                                                                  IntKind.i64.wrap (1 + nextR xs 1 50)) <
                                                              345686400000) then
                                                      False
                                                    else
                                                      bif
                                                          decide
                                                            (IntKind.i64.wrap
                                                                (IntKind.i64.wrap (0 + nextR xs 3 101) +
                                                                  IntKind.i64.wrap (1 + nextR xs 1 50)) <
                                                              IntKind.i64.wrap
                                                                (IntKind.i64.wrap (0 + nextR xs 3 101) +
                                                                  IntKind.i64.wrap (1 + nextR xs 1 50))) then
                                                        False
                                                      else
                                                        bif
                                                            decide
                                                              (IntKind.i64.wrap
                                                                  (IntKind.i64.wrap (0 + nextR xs 3 101) +
                                                                    IntKind.i64.wrap (1 + nextR xs 1 50)) ≥
                                                                0) then
                                                          bif
                                                              !decide
                                                                  (IntKind.i64.wrap
                                                                      (IntKind.i64.wrap (0 + nextR xs 3 101) +
                                                                        IntKind.i64.wrap (1 + nextR xs 1 50)) <
                                                                    345686400000) then
                                                            False
                                                          else
                                                            bif
                                                                decide
                                                                  (IntKind.i64.wrap
                                                                      (IntKind.i64.wrap (0 + nextR xs 3 101) +
                                                                        IntKind.i64.wrap (1 + nextR xs 1 50)) <
                                                                    IntKind.i64.wrap
                                                                      (IntKind.i64.wrap (0 + nextR xs 3 101) +
                                                                        IntKind.i64.wrap (1 + nextR xs 1 50))) then
                                                              False
                                                            else
                                                              bif
                                                                  decide
                                                                    (IntKind.i64.wrap
                                                                        (IntKind.i64.wrap (0 + nextR xs 3 101) +
                                                                          IntKind.i64.wrap (1 + nextR xs 1 50)) ≥
                                                                      0) then
                                                                bif
                                                                    !decide
                                                                        (IntKind.i64.wrap
                                                                            (IntKind.i64.wrap (0 + nextR xs 3 101) +
                                                                              IntKind.i64.wrap (1 + nextR xs 1 50)) <
                                                                          345686400000) then
                                                                  False
                                                                else
                                                                  bif
                                                                      decide
                                                                        (IntKind.i64.wrap
                                                                            (IntKind.i64.wrap (0 + nextR xs 3 101) +
                                                                              IntKind.i64.wrap (1 + nextR xs 1 50)) <
                                                                          IntKind.i64.wrap
                                                                            (IntKind.i64.wrap (0 + nextR xs 3 101) +
                                                                              IntKind.i64.wrap (1 + nextR xs 1 50))) then
                                                                    False
                                                                  else Q (Value.bool (bif true then true else false))
                                                              else False
                                                        else False
                                                  else False
                                                else False
                                          else False
                                  else False
                                else False
                      else False
                else False
              else False
        else False
      else False
    else False := by kernel_rfl
theorem sw01 (xs : Array Value) (Q : Value → Prop) : (sfn Tryz.prog (SL [some 0, none, some 1]) [(213037, false), (573180, false), (221474, true), (221476, false), (865745, false), (680815, true), (680817, false), (105271, false), (934341, false), (66260, false), (54061, true), (54063, false), (675957, false), (592966, false), (871961, true), (871963, false), (30779, false), (578768, true), (419997, true), (419999, false), (19937, false), (756899, true), (756901, false), (463869, false), (919237, true), (919239, false), (496332, false), (373293, true), (373295, false), (572119, false), (745167, true), (745169, false), (100177, false)] 150 [] Tryz.f5 [fz xs] h0 (fun v _ => Q v)) =
    bif decide (nextR xs 0 3 = 0) && allInts xs then
      bif allInts xs then
        bif decide (nextR xs 2 2 = 1) && allInts xs then
          bif decide (IntKind.i64.wrap (1 + nextR xs 1 50) < 1) then False
          else
            bif decide (IntKind.i64.wrap (1 + nextR xs 1 50) > 3600000) then False
            else
              bif allInts xs then
                bif decide (IntKind.i64.wrap (0 + nextR xs 3 101) ≥ 0) then
                  bif !decide (IntKind.i64.wrap (0 + nextR xs 3 101) < 345686400000) then False
                  else
                    bif decide (IntKind.i64.wrap (0 + nextR xs 3 101) < 0) then False
                    else
                      bif decide (IntKind.i64.wrap (0 + nextR xs 3 101) ≥ 0) then
                        bif !decide (IntKind.i64.wrap (0 + nextR xs 3 101) < 345686400000) then False
                        else
                          bif decide (IntKind.i64.wrap (0 + nextR xs 3 101) < IntKind.i64.wrap (0 + nextR xs 3 101)) then
                            False
                          else
                            bif
                                decide
                                  (IntKind.i64.wrap (0 + nextR xs 3 101) ≤
                                    IntKind.i64.wrap (IntKind.i64.wrap (0 + nextR xs 3 101) - 1000)) then
                              False
                            else
                              bif decide (IntKind.i64.wrap (IntKind.i64.wrap (1 + nextR xs 1 50) - 1) < 0) then False
                              else
                                bif
                                    decide
                                            (1 ≤
                                              IntKind.i64.wrap
                                                (IntKind.i64.wrap
                                                    (IntKind.i64.wrap (IntKind.i64.wrap (1 + nextR xs 1 50) - 1) - 0) +
                                                  1)) &&
                                          decide
                                            (IntKind.i64.wrap
                                                (IntKind.i64.wrap
                                                    (IntKind.i64.wrap (IntKind.i64.wrap (1 + nextR xs 1 50) - 1) - 0) +
                                                  1) ≤
                                              1000000000) &&
                                        true &&
                                      allInts xs then
                                  bif
                                      decide
                                        (IntKind.i64.wrap
                                            (IntKind.i64.wrap (0 + nextR xs 3 101) +
                                              IntKind.i64.wrap
                                                (0 +
                                                  nextR xs 4
                                                    (IntKind.i64.wrap
                                                      (IntKind.i64.wrap
                                                          (IntKind.i64.wrap (IntKind.i64.wrap (1 + nextR xs 1 50) - 1) -
                                                            0) +
                                                        1)))) ≥
                                          0) then
                                    bif
                                        !decide
                                            (IntKind.i64.wrap
                                                (IntKind.i64.wrap (0 + nextR xs 3 101) +
                                                  IntKind.i64.wrap
                                                    (0 +
                                                      nextR xs 4
                                                        (IntKind.i64.wrap
                                                          (IntKind.i64.wrap
                                                              (IntKind.i64.wrap (IntKind.i64.wrap (1 + nextR xs 1 50) - 1) -
                                                                0) +
                                                            1)))) <
                                              345686400000) then
                                      False
                                    else
                                      bif
                                          decide
                                            (IntKind.i64.wrap
                                                (IntKind.i64.wrap (0 + nextR xs 3 101) +
                                                  IntKind.i64.wrap
                                                    (0 +
                                                      nextR xs 4
                                                        (IntKind.i64.wrap
                                                          (IntKind.i64.wrap
                                                              (IntKind.i64.wrap (IntKind.i64.wrap (1 + nextR xs 1 50) - 1) -
                                                                0) +
                                                            1)))) <
                                              IntKind.i64.wrap (0 + nextR xs 3 101)) then
                                        False
                                      else
                                        bif
                                            decide
                                              (IntKind.i64.wrap
                                                  (IntKind.i64.wrap (0 + nextR xs 3 101) +
                                                    IntKind.i64.wrap
                                                      (0 +
                                                        nextR xs 4
                                                          (IntKind.i64.wrap
                                                            (IntKind.i64.wrap
                                                                (IntKind.i64.wrap
                                                                    (IntKind.i64.wrap (1 + nextR xs 1 50) - 1) -
                                                                  0) +
                                                              1)))) ≥
                                                IntKind.i64.wrap
                                                  (IntKind.i64.wrap (0 + nextR xs 3 101) +
                                                    IntKind.i64.wrap (1 + nextR xs 1 50))) then
                                          False
                                        else
                                          bif
                                              decide
                                                (IntKind.i64.wrap
                                                    (IntKind.i64.wrap (0 + nextR xs 3 101) +
                                                      IntKind.i64.wrap (1 + nextR xs 1 50)) ≥
                                                  0) then
                                            bif
                                                !decide
                                                    (IntKind.i64.wrap
                                                        (IntKind.i64.wrap (0 + nextR xs 3 101) +
                                                          IntKind.i64.wrap (1 + nextR xs 1 50)) <
                                                      345686400000) then
                                              False
                                            else
                                              bif
                                                  decide
                                                    (IntKind.i64.wrap
                                                        (IntKind.i64.wrap (0 + nextR xs 3 101) +
                                                          IntKind.i64.wrap (1 + nextR xs 1 50)) <
                                                      IntKind.i64.wrap
                                                        (IntKind.i64.wrap (0 + nextR xs 3 101) +
                                                          IntKind.i64.wrap
                                                            (0 +
                                                              nextR xs 4
                                                                (IntKind.i64.wrap
                                                                  (IntKind.i64.wrap
                                                                      (IntKind.i64.wrap
                                                                          (IntKind.i64.wrap (1 + nextR xs 1 50) - 1) -
                                                                        0) +
                                                                    1))))) then
                                                False
                                              else
                                                bif
                                                    decide
                                                      (IntKind.i64.wrap
                                                          (IntKind.i64.wrap (0 + nextR xs 3 101) +
                                                            IntKind.i64.wrap (1 + nextR xs 1 50)) ≥
                                                        IntKind.i64.wrap
                                                          (IntKind.i64.wrap (0 + nextR xs 3 101) +
                                                            IntKind.i64.wrap (1 + nextR xs 1 50))) then
                                                  bif
                                                      decide
                                                        (IntKind.i64.wrap
                                                            (IntKind.i64.wrap (0 + nextR xs 3 101) +
                                                              IntKind.i64.wrap (1 + nextR xs 1 50)) ≥
                                                          0) then
                                                    bif
                                                        !decide
                                                            (IntKind.i64.wrap
                                                                (IntKind.i64.wrap (0 + nextR xs 3 101) +
                                                                  IntKind.i64.wrap (1 + nextR xs 1 50)) <
                                                              345686400000) then
                                                      False
                                                    else
                                                      bif
                                                          decide
                                                            (IntKind.i64.wrap
                                                                (IntKind.i64.wrap (0 + nextR xs 3 101) +
                                                                  IntKind.i64.wrap (1 + nextR xs 1 50)) <
                                                              IntKind.i64.wrap
                                                                (IntKind.i64.wrap (0 + nextR xs 3 101) +
                                                                  IntKind.i64.wrap (1 + nextR xs 1 50))) then
                                                        False
                                                      else
                                                        bif
                                                            decide
                                                              (IntKind.i64.wrap
                                                                  (IntKind.i64.wrap (0 + nextR xs 3 101) +
                                                                    IntKind.i64.wrap (1 + nextR xs 1 50)) ≥
                                                                0) then
                                                          bif
                                                              !decide
                                                                  (IntKind.i64.wrap
                                                                      (IntKind.i64.wrap (0 + nextR xs 3 101) +
                                                                        IntKind.i64.wrap (1 + nextR xs 1 50)) <
                                                                    345686400000) then
                                                            False
                                                          else
                                                            bif
                                                                decide
                                                                  (IntKind.i64.wrap
                                                                      (IntKind.i64.wrap (0 + nextR xs 3 101) +
                                                                        IntKind.i64.wrap (1 + nextR xs 1 50)) <
                                                                    IntKind.i64.wrap
                                                                      (IntKind.i64.wrap (0 + nextR xs 3 101) +
                                                                        IntKind.i64.wrap (1 + nextR xs 1 50))) then
                                                              False
                                                            else
                                                              bif
                                                                  decide
                                                                    (IntKind.i64.wrap
                                                                        (IntKind.i64.wrap (0 + nextR xs 3 101) +
                                                                          IntKind.i64.wrap (1 + nextR xs 1 50)) ≥
                                                                      0) then
                                                                bif
                                                                    !decide
                                                                        (IntKind.i64.wrap
                                                                            (IntKind.i64.wrap (0 + nextR xs 3 101) +
                                                                              IntKind.i64.wrap (1 + nextR xs 1 50)) <
                                                                          345686400000) then
                                                                  False
                                                                else
                                                                  bif
                                                                      decide
                                                                        (IntKind.i64.wrap
                                                                            (IntKind.i64.wrap (0 + nextR xs 3 101) +
                                                                              IntKind.i64.wrap (1 + nextR xs 1 50)) <
                                                                          IntKind.i64.wrap
                                                                            (IntKind.i64.wrap (0 + nextR xs 3 101) +
                                                                              IntKind.i64.wrap (1 + nextR xs 1 50))) then
                                                                    False
                                                                  else
                                                                    bif
                                                                        decide
                                                                          (IntKind.i64.wrap
                                                                              (IntKind.i64.wrap (0 + nextR xs 3 101) +
                                                                                IntKind.i64.wrap (1 + nextR xs 1 50)) ≥
                                                                            0) then
                                                                      bif
                                                                          !decide
                                                                              (IntKind.i64.wrap
                                                                                  (IntKind.i64.wrap (0 + nextR xs 3 101) +
                                                                                    IntKind.i64.wrap (1 + nextR xs 1 50)) <
                                                                                345686400000) then
                                                                        False
                                                                      else
                                                                        bif
                                                                            decide
                                                                              (IntKind.i64.wrap
                                                                                  (IntKind.i64.wrap (0 + nextR xs 3 101) +
                                                                                    IntKind.i64.wrap (1 + nextR xs 1 50)) <
                                                                                IntKind.i64.wrap
                                                                                  (IntKind.i64.wrap (0 + nextR xs 3 101) +
                                                                                    IntKind.i64.wrap
                                                                                      (1 + nextR xs 1 50))) then
                                                                          False
                                                                        else
                                                                          bif
                                                                              decide
                                                                                (IntKind.i64.wrap
                                                                                    (IntKind.i64.wrap (0 + nextR xs 3 101) +
                                                                                      IntKind.i64.wrap
                                                                                        (1 + nextR xs 1 50)) ≥
                                                                                  0) then
                                                                            bif
                                                                                !decide
                                                                                    (IntKind.i64.wrap
                                                                                        (IntKind.i64.wrap
                                                                                            (0 + nextR xs 3 101) +
                                                                                          IntKind.i64.wrap
                                                                                            (1 + nextR xs 1 50)) <
                                                                                      345686400000) then
                                                                              False
                                                                            else
                                                                              bif
                                                                                  decide
                                                                                    (IntKind.i64.wrap
                                                                                        (IntKind.i64.wrap
                                                                                            (0 + nextR xs 3 101) +
                                                                                          IntKind.i64.wrap
                                                                                            (1 + nextR xs 1 50)) <
                                                                                      IntKind.i64.wrap
                                                                                        (IntKind.i64.wrap
                                                                                            (0 + nextR xs 3 101) +
                                                                                          IntKind.i64.wrap
                                                                                            (1 + nextR xs 1 50))) then
                                                                                False
                                                                              else
                                                                                Q
                                                                                  (Value.bool
                                                                                    (bif true then true else false))
                                                                          else False
                                                                    else False
                                                              else False
                                                        else False
                                                  else False
                                                else False
                                          else False
                                  else False
                                else False
                      else False
                else False
              else False
        else False
      else False
    else False := by kernel_rfl
theorem sw10 (xs : Array Value) (Q : Value → Prop) : (sfn Tryz.prog (SL [some 1, none, some 0]) [(213037, false), (573180, false), (221474, true), (221476, false), (865745, false), (680815, true), (680817, false), (105271, false), (934341, false), (36470, true), (36472, false), (130636, false), (40725, true), (40727, false), (262541, false), (104639, false), (243808, false), (846722, false), (248311, true), (248313, false), (697689, false), (477355, false), (534810, true), (534812, false), (579131, false), (543459, true), (514682, true), (514684, false), (955166, false), (783097, true), (783099, false), (276004, false), (148178, true), (148180, false), (593575, false)] 150 [] Tryz.f5 [fz xs] h0 (fun v _ => Q v)) =
    bif decide (nextR xs 0 3 = 1) && allInts xs then
      bif allInts xs then
        bif decide (nextR xs 2 2 = 0) && allInts xs then
          bif decide (IntKind.i64.wrap (1 + nextR xs 1 50) < 1) then False
          else
            bif decide (IntKind.i64.wrap (1 + nextR xs 1 50) > 3600000) then False
            else
              bif allInts xs then
                bif decide (IntKind.i64.wrap (0 + nextR xs 3 101) ≥ 0) then
                  bif !decide (IntKind.i64.wrap (0 + nextR xs 3 101) < 345686400000) then False
                  else
                    bif decide (IntKind.i64.wrap (0 + nextR xs 3 101) < 0) then False
                    else
                      bif decide (IntKind.i64.wrap (0 + nextR xs 3 101) ≥ 0) then
                        bif !decide (IntKind.i64.wrap (0 + nextR xs 3 101) < 345686400000) then False
                        else
                          bif decide (IntKind.i64.wrap (0 + nextR xs 3 101) < IntKind.i64.wrap (0 + nextR xs 3 101)) then
                            False
                          else
                            bif
                                decide
                                  (IntKind.i64.wrap (0 + nextR xs 3 101) ≤
                                    IntKind.i64.wrap (IntKind.i64.wrap (0 + nextR xs 3 101) - 1000)) then
                              False
                            else
                              bif decide (IntKind.i64.wrap (0 + nextR xs 3 101) ≥ 0) then
                                bif !decide (IntKind.i64.wrap (0 + nextR xs 3 101) < 345686400000) then False
                                else
                                  bif
                                      decide
                                        (IntKind.i64.wrap (0 + nextR xs 3 101) < IntKind.i64.wrap (0 + nextR xs 3 101)) then
                                    False
                                  else
                                    bif decide (IntKind.i64.wrap (0 + nextR xs 3 101) ≥ 0) then
                                      bif !decide (IntKind.i64.wrap (0 + nextR xs 3 101) < 345686400000) then False
                                      else
                                        bif
                                            decide
                                              (IntKind.i64.wrap (0 + nextR xs 3 101) <
                                                IntKind.i64.wrap (0 + nextR xs 3 101)) then
                                          False
                                        else
                                          bif
                                              decide
                                                (IntKind.i64.wrap (0 + nextR xs 3 101) ≤
                                                  IntKind.i64.wrap (IntKind.i64.wrap (0 + nextR xs 3 101) - 1000)) then
                                            False
                                          else
                                            bif
                                                decide
                                                  (IntKind.i64.wrap (0 + nextR xs 3 101) ≤
                                                    IntKind.i64.wrap (IntKind.i64.wrap (0 + nextR xs 3 101) - 1000)) then
                                              False
                                            else
                                              bif
                                                  decide
                                                    (IntKind.i64.wrap (IntKind.i64.wrap (1 + nextR xs 1 50) - 1) < 0) then
                                                False
                                              else
                                                bif
                                                    decide
                                                            (1 ≤
                                                              IntKind.i64.wrap
                                                                (IntKind.i64.wrap
                                                                    (IntKind.i64.wrap
                                                                        (IntKind.i64.wrap (1 + nextR xs 1 50) - 1) -
                                                                      0) +
                                                                  1)) &&
                                                          decide
                                                            (IntKind.i64.wrap
                                                                (IntKind.i64.wrap
                                                                    (IntKind.i64.wrap
                                                                        (IntKind.i64.wrap (1 + nextR xs 1 50) - 1) -
                                                                      0) +
                                                                  1) ≤
                                                              1000000000) &&
                                                        true &&
                                                      allInts xs then
                                                  bif
                                                      decide
                                                        (IntKind.i64.wrap
                                                            (IntKind.i64.wrap (0 + nextR xs 3 101) +
                                                              IntKind.i64.wrap
                                                                (0 +
                                                                  nextR xs 4
                                                                    (IntKind.i64.wrap
                                                                      (IntKind.i64.wrap
                                                                          (IntKind.i64.wrap
                                                                              (IntKind.i64.wrap (1 + nextR xs 1 50) - 1) -
                                                                            0) +
                                                                        1)))) ≥
                                                          0) then
                                                    bif
                                                        !decide
                                                            (IntKind.i64.wrap
                                                                (IntKind.i64.wrap (0 + nextR xs 3 101) +
                                                                  IntKind.i64.wrap
                                                                    (0 +
                                                                      nextR xs 4
                                                                        (IntKind.i64.wrap
                                                                          (IntKind.i64.wrap
                                                                              (IntKind.i64.wrap
                                                                                  (IntKind.i64.wrap (1 + nextR xs 1 50) -
                                                                                    1) -
                                                                                0) +
                                                                            1)))) <
                                                              345686400000) then
                                                      False
                                                    else
                                                      bif
                                                          decide
                                                            (IntKind.i64.wrap
                                                                (IntKind.i64.wrap (0 + nextR xs 3 101) +
                                                                  IntKind.i64.wrap
                                                                    (0 +
                                                                      nextR xs 4
                                                                        (IntKind.i64.wrap
                                                                          (IntKind.i64.wrap
                                                                              (IntKind.i64.wrap
                                                                                  (IntKind.i64.wrap (1 + nextR xs 1 50) -
                                                                                    1) -
                                                                                0) +
                                                                            1)))) <
                                                              IntKind.i64.wrap (0 + nextR xs 3 101)) then
                                                        False
                                                      else
                                                        bif
                                                            decide
                                                              (IntKind.i64.wrap
                                                                  (IntKind.i64.wrap (0 + nextR xs 3 101) +
                                                                    IntKind.i64.wrap
                                                                      (0 +
                                                                        nextR xs 4
                                                                          (IntKind.i64.wrap
                                                                            (IntKind.i64.wrap
                                                                                (IntKind.i64.wrap
                                                                                    (IntKind.i64.wrap (1 + nextR xs 1 50) -
                                                                                      1) -
                                                                                  0) +
                                                                              1)))) ≥
                                                                IntKind.i64.wrap
                                                                  (IntKind.i64.wrap (0 + nextR xs 3 101) +
                                                                    IntKind.i64.wrap (1 + nextR xs 1 50))) then
                                                          False
                                                        else
                                                          bif
                                                              decide
                                                                (IntKind.i64.wrap
                                                                    (IntKind.i64.wrap (0 + nextR xs 3 101) +
                                                                      IntKind.i64.wrap (1 + nextR xs 1 50)) ≥
                                                                  0) then
                                                            bif
                                                                !decide
                                                                    (IntKind.i64.wrap
                                                                        (IntKind.i64.wrap (0 + nextR xs 3 101) +
                                                                          IntKind.i64.wrap (1 + nextR xs 1 50)) <
                                                                      345686400000) then
                                                              False
                                                            else
                                                              bif
                                                                  decide
                                                                    (IntKind.i64.wrap
                                                                        (IntKind.i64.wrap (0 + nextR xs 3 101) +
                                                                          IntKind.i64.wrap (1 + nextR xs 1 50)) <
                                                                      IntKind.i64.wrap
                                                                        (IntKind.i64.wrap (0 + nextR xs 3 101) +
                                                                          IntKind.i64.wrap
                                                                            (0 +
                                                                              nextR xs 4
                                                                                (IntKind.i64.wrap
                                                                                  (IntKind.i64.wrap
                                                                                      (IntKind.i64.wrap
                                                                                          (IntKind.i64.wrap
                                                                                              (1 + nextR xs 1 50) -
                                                                                            1) -
                                                                                        0) +
                                                                                    1))))) then
                                                                False
                                                              else
                                                                bif
                                                                    decide
                                                                      (IntKind.i64.wrap
                                                                          (IntKind.i64.wrap (0 + nextR xs 3 101) +
                                                                            IntKind.i64.wrap (1 + nextR xs 1 50)) ≥
                                                                        IntKind.i64.wrap
                                                                          (IntKind.i64.wrap (0 + nextR xs 3 101) +
                                                                            IntKind.i64.wrap (1 + nextR xs 1 50))) then
                                                                  bif
                                                                      decide
                                                                        (IntKind.i64.wrap
                                                                            (IntKind.i64.wrap (0 + nextR xs 3 101) +
                                                                              IntKind.i64.wrap (1 + nextR xs 1 50)) ≥
                                                                          0) then
                                                                    bif
                                                                        !decide
                                                                            (IntKind.i64.wrap
                                                                                (IntKind.i64.wrap (0 + nextR xs 3 101) +
                                                                                  IntKind.i64.wrap (1 + nextR xs 1 50)) <
                                                                              345686400000) then
                                                                      False
                                                                    else
                                                                      bif
                                                                          decide
                                                                            (IntKind.i64.wrap
                                                                                (IntKind.i64.wrap (0 + nextR xs 3 101) +
                                                                                  IntKind.i64.wrap (1 + nextR xs 1 50)) <
                                                                              IntKind.i64.wrap
                                                                                (IntKind.i64.wrap (0 + nextR xs 3 101) +
                                                                                  IntKind.i64.wrap
                                                                                    (1 + nextR xs 1 50))) then
                                                                        False
                                                                      else
                                                                        bif
                                                                            decide
                                                                              (IntKind.i64.wrap
                                                                                  (IntKind.i64.wrap (0 + nextR xs 3 101) +
                                                                                    IntKind.i64.wrap (1 + nextR xs 1 50)) ≥
                                                                                0) then
                                                                          bif
                                                                              !decide
                                                                                  (IntKind.i64.wrap
                                                                                      (IntKind.i64.wrap
                                                                                          (0 + nextR xs 3 101) +
                                                                                        IntKind.i64.wrap
                                                                                          (1 + nextR xs 1 50)) <
                                                                                    345686400000) then
                                                                            False
                                                                          else
                                                                            bif
                                                                                decide
                                                                                  (IntKind.i64.wrap
                                                                                      (IntKind.i64.wrap
                                                                                          (0 + nextR xs 3 101) +
                                                                                        IntKind.i64.wrap
                                                                                          (1 + nextR xs 1 50)) <
                                                                                    IntKind.i64.wrap
                                                                                      (IntKind.i64.wrap
                                                                                          (0 + nextR xs 3 101) +
                                                                                        IntKind.i64.wrap
                                                                                          (1 + nextR xs 1 50))) then
                                                                              False
                                                                            else
                                                                              bif
                                                                                  decide
                                                                                    (IntKind.i64.wrap
                                                                                        (IntKind.i64.wrap
                                                                                            (0 + nextR xs 3 101) +
                                                                                          IntKind.i64.wrap
                                                                                            (1 + nextR xs 1 50)) ≥
                                                                                      0) then
                                                                                bif
                                                                                    !decide
                                                                                        (IntKind.i64.wrap
                                                                                            (IntKind.i64.wrap
                                                                                                (0 + nextR xs 3 101) +
                                                                                              IntKind.i64.wrap
                                                                                                (1 + nextR xs 1 50)) <
                                                                                          345686400000) then
                                                                                  False
                                                                                else
                                                                                  bif
                                                                                      decide
                                                                                        (IntKind.i64.wrap
                                                                                            (IntKind.i64.wrap
                                                                                                (0 + nextR xs 3 101) +
                                                                                              IntKind.i64.wrap
                                                                                                (1 + nextR xs 1 50)) <
                                                                                          IntKind.i64.wrap
                                                                                            (IntKind.i64.wrap
                                                                                                (0 + nextR xs 3 101) +
                                                                                              IntKind.i64.wrap
                                                                                                (1 + nextR xs 1 50))) then
                                                                                    False
                                                                                  else
                                                                                    Q
                                                                                      (Value.bool
                                                                                        (bif true then true else false))
                                                                              else False
                                                                        else False
                                                                  else False
                                                                else False
                                                          else False
                                                  else False
                                                else False
                                    else False
                              else False
                      else False
                else False
              else False
        else False
      else False
    else False := by kernel_rfl
theorem sw11 (xs : Array Value) (Q : Value → Prop) : (sfn Tryz.prog (SL [some 1, none, some 1]) [(213037, false), (573180, false), (221474, true), (221476, false), (865745, false), (680815, true), (680817, false), (105271, false), (934341, false), (36470, true), (36472, false), (130636, false), (40725, true), (40727, false), (262541, false), (104639, false), (243808, false), (846722, false), (248311, true), (248313, false), (697689, false), (477355, false), (534810, true), (534812, false), (579131, false), (543459, true), (532734, true), (532736, false), (514775, false), (356282, true), (356284, false), (44778, false), (986343, true), (986345, false), (576612, false), (857215, true), (857217, false), (573656, false), (338910, true), (338912, false), (506249, false)] 150 [] Tryz.f5 [fz xs] h0 (fun v _ => Q v)) =
    bif decide (nextR xs 0 3 = 1) && allInts xs then
      bif allInts xs then
        bif decide (nextR xs 2 2 = 1) && allInts xs then
          bif decide (IntKind.i64.wrap (1 + nextR xs 1 50) < 1) then False
          else
            bif decide (IntKind.i64.wrap (1 + nextR xs 1 50) > 3600000) then False
            else
              bif allInts xs then
                bif decide (IntKind.i64.wrap (0 + nextR xs 3 101) ≥ 0) then
                  bif !decide (IntKind.i64.wrap (0 + nextR xs 3 101) < 345686400000) then False
                  else
                    bif decide (IntKind.i64.wrap (0 + nextR xs 3 101) < 0) then False
                    else
                      bif decide (IntKind.i64.wrap (0 + nextR xs 3 101) ≥ 0) then
                        bif !decide (IntKind.i64.wrap (0 + nextR xs 3 101) < 345686400000) then False
                        else
                          bif decide (IntKind.i64.wrap (0 + nextR xs 3 101) < IntKind.i64.wrap (0 + nextR xs 3 101)) then
                            False
                          else
                            bif
                                decide
                                  (IntKind.i64.wrap (0 + nextR xs 3 101) ≤
                                    IntKind.i64.wrap (IntKind.i64.wrap (0 + nextR xs 3 101) - 1000)) then
                              False
                            else
                              bif decide (IntKind.i64.wrap (0 + nextR xs 3 101) ≥ 0) then
                                bif !decide (IntKind.i64.wrap (0 + nextR xs 3 101) < 345686400000) then False
                                else
                                  bif
                                      decide
                                        (IntKind.i64.wrap (0 + nextR xs 3 101) < IntKind.i64.wrap (0 + nextR xs 3 101)) then
                                    False
                                  else
                                    bif decide (IntKind.i64.wrap (0 + nextR xs 3 101) ≥ 0) then
                                      bif !decide (IntKind.i64.wrap (0 + nextR xs 3 101) < 345686400000) then False
                                      else
                                        bif
                                            decide
                                              (IntKind.i64.wrap (0 + nextR xs 3 101) <
                                                IntKind.i64.wrap (0 + nextR xs 3 101)) then
                                          False
                                        else
                                          bif
                                              decide
                                                (IntKind.i64.wrap (0 + nextR xs 3 101) ≤
                                                  IntKind.i64.wrap (IntKind.i64.wrap (0 + nextR xs 3 101) - 1000)) then
                                            False
                                          else
                                            bif
                                                decide
                                                  (IntKind.i64.wrap (0 + nextR xs 3 101) ≤
                                                    IntKind.i64.wrap (IntKind.i64.wrap (0 + nextR xs 3 101) - 1000)) then
                                              False
                                            else
                                              bif
                                                  decide
                                                    (IntKind.i64.wrap (IntKind.i64.wrap (1 + nextR xs 1 50) - 1) < 0) then
                                                False
                                              else
                                                bif
                                                    decide
                                                            (1 ≤
                                                              IntKind.i64.wrap
                                                                (IntKind.i64.wrap
                                                                    (IntKind.i64.wrap
                                                                        (IntKind.i64.wrap (1 + nextR xs 1 50) - 1) -
                                                                      0) +
                                                                  1)) &&
                                                          decide
                                                            (IntKind.i64.wrap
                                                                (IntKind.i64.wrap
                                                                    (IntKind.i64.wrap
                                                                        (IntKind.i64.wrap (1 + nextR xs 1 50) - 1) -
                                                                      0) +
                                                                  1) ≤
                                                              1000000000) &&
                                                        true &&
                                                      allInts xs then
                                                  bif
                                                      decide
                                                        (IntKind.i64.wrap
                                                            (IntKind.i64.wrap (0 + nextR xs 3 101) +
                                                              IntKind.i64.wrap
                                                                (0 +
                                                                  nextR xs 4
                                                                    (IntKind.i64.wrap
                                                                      (IntKind.i64.wrap
                                                                          (IntKind.i64.wrap
                                                                              (IntKind.i64.wrap (1 + nextR xs 1 50) - 1) -
                                                                            0) +
                                                                        1)))) ≥
                                                          0) then
                                                    bif
                                                        !decide
                                                            (IntKind.i64.wrap
                                                                (IntKind.i64.wrap (0 + nextR xs 3 101) +
                                                                  IntKind.i64.wrap
                                                                    (0 +
                                                                      nextR xs 4
                                                                        (IntKind.i64.wrap
                                                                          (IntKind.i64.wrap
                                                                              (IntKind.i64.wrap
                                                                                  (IntKind.i64.wrap (1 + nextR xs 1 50) -
                                                                                    1) -
                                                                                0) +
                                                                            1)))) <
                                                              345686400000) then
                                                      False
                                                    else
                                                      bif
                                                          decide
                                                            (IntKind.i64.wrap
                                                                (IntKind.i64.wrap (0 + nextR xs 3 101) +
                                                                  IntKind.i64.wrap
                                                                    (0 +
                                                                      nextR xs 4
                                                                        (IntKind.i64.wrap
                                                                          (IntKind.i64.wrap
                                                                              (IntKind.i64.wrap
                                                                                  (IntKind.i64.wrap (1 + nextR xs 1 50) -
                                                                                    1) -
                                                                                0) +
                                                                            1)))) <
                                                              IntKind.i64.wrap (0 + nextR xs 3 101)) then
                                                        False
                                                      else
                                                        bif
                                                            decide
                                                              (IntKind.i64.wrap
                                                                  (IntKind.i64.wrap (0 + nextR xs 3 101) +
                                                                    IntKind.i64.wrap
                                                                      (0 +
                                                                        nextR xs 4
                                                                          (IntKind.i64.wrap
                                                                            (IntKind.i64.wrap
                                                                                (IntKind.i64.wrap
                                                                                    (IntKind.i64.wrap (1 + nextR xs 1 50) -
                                                                                      1) -
                                                                                  0) +
                                                                              1)))) ≥
                                                                IntKind.i64.wrap
                                                                  (IntKind.i64.wrap (0 + nextR xs 3 101) +
                                                                    IntKind.i64.wrap (1 + nextR xs 1 50))) then
                                                          False
                                                        else
                                                          bif
                                                              decide
                                                                (IntKind.i64.wrap
                                                                    (IntKind.i64.wrap (0 + nextR xs 3 101) +
                                                                      IntKind.i64.wrap (1 + nextR xs 1 50)) ≥
                                                                  0) then
                                                            bif
                                                                !decide
                                                                    (IntKind.i64.wrap
                                                                        (IntKind.i64.wrap (0 + nextR xs 3 101) +
                                                                          IntKind.i64.wrap (1 + nextR xs 1 50)) <
                                                                      345686400000) then
                                                              False
                                                            else
                                                              bif
                                                                  decide
                                                                    (IntKind.i64.wrap
                                                                        (IntKind.i64.wrap (0 + nextR xs 3 101) +
                                                                          IntKind.i64.wrap (1 + nextR xs 1 50)) <
                                                                      IntKind.i64.wrap
                                                                        (IntKind.i64.wrap (0 + nextR xs 3 101) +
                                                                          IntKind.i64.wrap
                                                                            (0 +
                                                                              nextR xs 4
                                                                                (IntKind.i64.wrap
                                                                                  (IntKind.i64.wrap
                                                                                      (IntKind.i64.wrap
                                                                                          (IntKind.i64.wrap
                                                                                              (1 + nextR xs 1 50) -
                                                                                            1) -
                                                                                        0) +
                                                                                    1))))) then
                                                                False
                                                              else
                                                                bif
                                                                    decide
                                                                      (IntKind.i64.wrap
                                                                          (IntKind.i64.wrap (0 + nextR xs 3 101) +
                                                                            IntKind.i64.wrap (1 + nextR xs 1 50)) ≥
                                                                        IntKind.i64.wrap
                                                                          (IntKind.i64.wrap (0 + nextR xs 3 101) +
                                                                            IntKind.i64.wrap (1 + nextR xs 1 50))) then
                                                                  bif
                                                                      decide
                                                                        (IntKind.i64.wrap
                                                                            (IntKind.i64.wrap (0 + nextR xs 3 101) +
                                                                              IntKind.i64.wrap (1 + nextR xs 1 50)) ≥
                                                                          0) then
                                                                    bif
                                                                        !decide
                                                                            (IntKind.i64.wrap
                                                                                (IntKind.i64.wrap (0 + nextR xs 3 101) +
                                                                                  IntKind.i64.wrap (1 + nextR xs 1 50)) <
                                                                              345686400000) then
                                                                      False
                                                                    else
                                                                      bif
                                                                          decide
                                                                            (IntKind.i64.wrap
                                                                                (IntKind.i64.wrap (0 + nextR xs 3 101) +
                                                                                  IntKind.i64.wrap (1 + nextR xs 1 50)) <
                                                                              IntKind.i64.wrap
                                                                                (IntKind.i64.wrap (0 + nextR xs 3 101) +
                                                                                  IntKind.i64.wrap
                                                                                    (1 + nextR xs 1 50))) then
                                                                        False
                                                                      else
                                                                        bif
                                                                            decide
                                                                              (IntKind.i64.wrap
                                                                                  (IntKind.i64.wrap (0 + nextR xs 3 101) +
                                                                                    IntKind.i64.wrap (1 + nextR xs 1 50)) ≥
                                                                                0) then
                                                                          bif
                                                                              !decide
                                                                                  (IntKind.i64.wrap
                                                                                      (IntKind.i64.wrap
                                                                                          (0 + nextR xs 3 101) +
                                                                                        IntKind.i64.wrap
                                                                                          (1 + nextR xs 1 50)) <
                                                                                    345686400000) then
                                                                            False
                                                                          else
                                                                            bif
                                                                                decide
                                                                                  (IntKind.i64.wrap
                                                                                      (IntKind.i64.wrap
                                                                                          (0 + nextR xs 3 101) +
                                                                                        IntKind.i64.wrap
                                                                                          (1 + nextR xs 1 50)) <
                                                                                    IntKind.i64.wrap
                                                                                      (IntKind.i64.wrap
                                                                                          (0 + nextR xs 3 101) +
                                                                                        IntKind.i64.wrap
                                                                                          (1 + nextR xs 1 50))) then
                                                                              False
                                                                            else
                                                                              bif
                                                                                  decide
                                                                                    (IntKind.i64.wrap
                                                                                        (IntKind.i64.wrap
                                                                                            (0 + nextR xs 3 101) +
                                                                                          IntKind.i64.wrap
                                                                                            (1 + nextR xs 1 50)) ≥
                                                                                      0) then
                                                                                bif
                                                                                    !decide
                                                                                        (IntKind.i64.wrap
                                                                                            (IntKind.i64.wrap
                                                                                                (0 + nextR xs 3 101) +
                                                                                              IntKind.i64.wrap
                                                                                                (1 + nextR xs 1 50)) <
                                                                                          345686400000) then
                                                                                  False
                                                                                else
                                                                                  bif
                                                                                      decide
                                                                                        (IntKind.i64.wrap
                                                                                            (IntKind.i64.wrap
                                                                                                (0 + nextR xs 3 101) +
                                                                                              IntKind.i64.wrap
                                                                                                (1 + nextR xs 1 50)) <
                                                                                          IntKind.i64.wrap
                                                                                            (IntKind.i64.wrap
                                                                                                (0 + nextR xs 3 101) +
                                                                                              IntKind.i64.wrap
                                                                                                (1 + nextR xs 1 50))) then
                                                                                    False
                                                                                  else
                                                                                    bif
                                                                                        decide
                                                                                          (IntKind.i64.wrap
                                                                                              (IntKind.i64.wrap
                                                                                                  (0 + nextR xs 3 101) +
                                                                                                IntKind.i64.wrap
                                                                                                  (1 + nextR xs 1 50)) ≥
                                                                                            0) then
                                                                                      bif
                                                                                          !decide
                                                                                              (IntKind.i64.wrap
                                                                                                  (IntKind.i64.wrap
                                                                                                      (0 + nextR xs 3 101) +
                                                                                                    IntKind.i64.wrap
                                                                                                      (1 + nextR xs 1 50)) <
                                                                                                345686400000) then
                                                                                        False
                                                                                      else
                                                                                        bif
                                                                                            decide
                                                                                              (IntKind.i64.wrap
                                                                                                  (IntKind.i64.wrap
                                                                                                      (0 + nextR xs 3 101) +
                                                                                                    IntKind.i64.wrap
                                                                                                      (1 + nextR xs 1 50)) <
                                                                                                IntKind.i64.wrap
                                                                                                  (IntKind.i64.wrap
                                                                                                      (0 + nextR xs 3 101) +
                                                                                                    IntKind.i64.wrap
                                                                                                      (1 +
                                                                                                        nextR xs 1
                                                                                                          50))) then
                                                                                          False
                                                                                        else
                                                                                          bif
                                                                                              decide
                                                                                                (IntKind.i64.wrap
                                                                                                    (IntKind.i64.wrap
                                                                                                        (0 +
                                                                                                          nextR xs 3 101) +
                                                                                                      IntKind.i64.wrap
                                                                                                        (1 +
                                                                                                          nextR xs 1 50)) ≥
                                                                                                  0) then
                                                                                            bif
                                                                                                !decide
                                                                                                    (IntKind.i64.wrap
                                                                                                        (IntKind.i64.wrap
                                                                                                            (0 +
                                                                                                              nextR xs 3
                                                                                                                101) +
                                                                                                          IntKind.i64.wrap
                                                                                                            (1 +
                                                                                                              nextR xs 1
                                                                                                                50)) <
                                                                                                      345686400000) then
                                                                                              False
                                                                                            else
                                                                                              bif
                                                                                                  decide
                                                                                                    (IntKind.i64.wrap
                                                                                                        (IntKind.i64.wrap
                                                                                                            (0 +
                                                                                                              nextR xs 3
                                                                                                                101) +
                                                                                                          IntKind.i64.wrap
                                                                                                            (1 +
                                                                                                              nextR xs 1
                                                                                                                50)) <
                                                                                                      IntKind.i64.wrap
                                                                                                        (IntKind.i64.wrap
                                                                                                            (0 +
                                                                                                              nextR xs 3
                                                                                                                101) +
                                                                                                          IntKind.i64.wrap
                                                                                                            (1 +
                                                                                                              nextR xs 1
                                                                                                                50))) then
                                                                                                False
                                                                                              else
                                                                                                Q
                                                                                                  (Value.bool
                                                                                                    (bif true then true
                                                                                                    else false))
                                                                                          else False
                                                                                    else False
                                                                              else False
                                                                        else False
                                                                  else False
                                                                else False
                                                          else False
                                                  else False
                                                else False
                                    else False
                              else False
                      else False
                else False
              else False
        else False
      else False
    else False := by kernel_rfl

set_option maxRecDepth 100000 in
set_option maxHeartbeats 4000000 in
theorem law00 (zs : List Int) (k0 : nextR (intsV zs) 0 3 = 0) (k2 : nextR (intsV zs) 2 2 = 0) : FnOK 0 Tryz.prog 5 ⟨[fz (intsV zs)]⟩ h0 (fun v _ => v = .bool true) := by
  refine FnOK.tree (SL_ok _) mixed Tryz.func5 some5 (sw00 (intsV zs) fun v => v = .bool true) ?_
  have b1 := (nextR_spec zs 50 1 (by omega) (by omega) (by omega) (by omega)).1
  have b3 := (nextR_spec zs 101 3 (by omega) (by omega) (by omega) (by omega)).1
  have b4 := fun n (h1 : 1 ≤ n) (h2 : n ≤ 4611686018427387904) => (nextR_spec zs n 4 (by omega) (by omega) h1 h2).1
  have ha := allInts_intsV zs
  generalize intsV zs = xs at *
  generalize nextR xs 1 50 = r1 at *
  generalize nextR xs 3 101 = r3 at *
  simp only [ha, k0, k2, decide_true, Bool.and_true, cond_true]
  simp (disch := omega) only [wrap_id]
  have b4 := b4 (1 + r1 - 1 - 0 + 1) (by omega) (by omega)
  generalize nextR xs 4 (1 + r1 - 1 - 0 + 1) = r4 at *
  simp (disch := omega) only [wrap_id]
  repeat (first | (refine need_mk (by first | (simp; done) | (simp; omega)) ?_) | (refine cut_mk (by first | (simp; done) | (simp; omega)) ?_))
  first | rfl | trivial

set_option maxRecDepth 100000 in
set_option maxHeartbeats 4000000 in
theorem law01 (zs : List Int) (k0 : nextR (intsV zs) 0 3 = 0) (k2 : nextR (intsV zs) 2 2 = 1) : FnOK 0 Tryz.prog 5 ⟨[fz (intsV zs)]⟩ h0 (fun v _ => v = .bool true) := by
  refine FnOK.tree (SL_ok _) mixed Tryz.func5 some5 (sw01 (intsV zs) fun v => v = .bool true) ?_
  have b1 := (nextR_spec zs 50 1 (by omega) (by omega) (by omega) (by omega)).1
  have b3 := (nextR_spec zs 101 3 (by omega) (by omega) (by omega) (by omega)).1
  have b4 := fun n (h1 : 1 ≤ n) (h2 : n ≤ 4611686018427387904) => (nextR_spec zs n 4 (by omega) (by omega) h1 h2).1
  have ha := allInts_intsV zs
  generalize intsV zs = xs at *
  generalize nextR xs 1 50 = r1 at *
  generalize nextR xs 3 101 = r3 at *
  simp only [ha, k0, k2, decide_true, Bool.and_true, cond_true]
  simp (disch := omega) only [wrap_id]
  have b4 := b4 (1 + r1 - 1 - 0 + 1) (by omega) (by omega)
  generalize nextR xs 4 (1 + r1 - 1 - 0 + 1) = r4 at *
  simp (disch := omega) only [wrap_id]
  repeat (first | (refine need_mk (by first | (simp; done) | (simp; omega)) ?_) | (refine cut_mk (by first | (simp; done) | (simp; omega)) ?_))
  first | rfl | trivial

set_option maxRecDepth 100000 in
set_option maxHeartbeats 4000000 in
theorem law10 (zs : List Int) (k0 : nextR (intsV zs) 0 3 = 1) (k2 : nextR (intsV zs) 2 2 = 0) : FnOK 0 Tryz.prog 5 ⟨[fz (intsV zs)]⟩ h0 (fun v _ => v = .bool true) := by
  refine FnOK.tree (SL_ok _) mixed Tryz.func5 some5 (sw10 (intsV zs) fun v => v = .bool true) ?_
  have b1 := (nextR_spec zs 50 1 (by omega) (by omega) (by omega) (by omega)).1
  have b3 := (nextR_spec zs 101 3 (by omega) (by omega) (by omega) (by omega)).1
  have b4 := fun n (h1 : 1 ≤ n) (h2 : n ≤ 4611686018427387904) => (nextR_spec zs n 4 (by omega) (by omega) h1 h2).1
  have ha := allInts_intsV zs
  generalize intsV zs = xs at *
  generalize nextR xs 1 50 = r1 at *
  generalize nextR xs 3 101 = r3 at *
  simp only [ha, k0, k2, decide_true, Bool.and_true, cond_true]
  simp (disch := omega) only [wrap_id]
  have b4 := b4 (1 + r1 - 1 - 0 + 1) (by omega) (by omega)
  generalize nextR xs 4 (1 + r1 - 1 - 0 + 1) = r4 at *
  simp (disch := omega) only [wrap_id]
  repeat (first | (refine need_mk (by first | (simp; done) | (simp; omega)) ?_) | (refine cut_mk (by first | (simp; done) | (simp; omega)) ?_))
  first | rfl | trivial

set_option maxRecDepth 100000 in
set_option maxHeartbeats 4000000 in
theorem law11 (zs : List Int) (k0 : nextR (intsV zs) 0 3 = 1) (k2 : nextR (intsV zs) 2 2 = 1) : FnOK 0 Tryz.prog 5 ⟨[fz (intsV zs)]⟩ h0 (fun v _ => v = .bool true) := by
  refine FnOK.tree (SL_ok _) mixed Tryz.func5 some5 (sw11 (intsV zs) fun v => v = .bool true) ?_
  have b1 := (nextR_spec zs 50 1 (by omega) (by omega) (by omega) (by omega)).1
  have b3 := (nextR_spec zs 101 3 (by omega) (by omega) (by omega) (by omega)).1
  have b4 := fun n (h1 : 1 ≤ n) (h2 : n ≤ 4611686018427387904) => (nextR_spec zs n 4 (by omega) (by omega) h1 h2).1
  have ha := allInts_intsV zs
  generalize intsV zs = xs at *
  generalize nextR xs 1 50 = r1 at *
  generalize nextR xs 3 101 = r3 at *
  simp only [ha, k0, k2, decide_true, Bool.and_true, cond_true]
  simp (disch := omega) only [wrap_id]
  have b4 := b4 (1 + r1 - 1 - 0 + 1) (by omega) (by omega)
  generalize nextR xs 4 (1 + r1 - 1 - 0 + 1) = r4 at *
  simp (disch := omega) only [wrap_id]
  repeat (first | (refine need_mk (by first | (simp; done) | (simp; omega)) ?_) | (refine cut_mk (by first | (simp; done) | (simp; omega)) ?_))
  first | rfl | trivial
end Go.Proofs.YtknllcjhbgdjjaaGreatDoor
