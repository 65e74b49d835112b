/-
  The symbolic evaluation of 'SwitchesProtect', continued.
-/
import Derived.Test.YtknllcjhbgdjjaaGreatDoorSwitchA
namespace Go.Proofs.YtknllcjhbgdjjaaGreatDoor
open Go.Ev Go.RowKit
theorem sw20 (xs : Array Value) (Q : Value → Prop) : (sfn Tryz.prog (SL [some 2, none, some 0]) [(213037, false), (573180, false), (221474, true), (221476, false), (865745, false), (680815, true), (680817, false), (105271, false), (934341, false), (36470, true), (36472, false), (130636, false), (40725, true), (40727, false), (262541, false), (104639, false), (243808, false), (816932, true), (816934, false), (324886, false), (761449, true), (761451, false), (604919, false), (474648, false), (714054, false), (135616, false), (34035, false), (55089, true), (55091, false), (707825, false), (218021, false), (121531, true), (121533, false), (767521, false), (585706, true), (389321, true), (389323, false), (68984, false), (808836, true), (808838, false), (73910, false), (569686, true), (569688, false), (660284, false)] 150 [] Tryz.f5 [fz xs] h0 (fun v _ => Q v)) =
    bif decide (nextR xs 0 3 = 2) && allInts xs then
      bif allInts xs then
        bif decide (nextR xs 2 2 = 0) && allInts xs then
          bif decide (IntKind.i64.wrap (1 + nextR xs 1 50) < 1) then False
          else
            bif decide (IntKind.i64.wrap (1 + nextR xs 1 50) > 3600000) then False
            else
              bif allInts xs then
                bif decide (IntKind.i64.wrap (0 + nextR xs 3 101) ≥ 0) then
                  bif !decide (IntKind.i64.wrap (0 + nextR xs 3 101) < 345686400000) then False
                  else
                    bif decide (IntKind.i64.wrap (0 + nextR xs 3 101) < 0) then False
                    else
                      bif decide (IntKind.i64.wrap (0 + nextR xs 3 101) ≥ 0) then
                        bif !decide (IntKind.i64.wrap (0 + nextR xs 3 101) < 345686400000) then False
                        else
                          bif decide (IntKind.i64.wrap (0 + nextR xs 3 101) < IntKind.i64.wrap (0 + nextR xs 3 101)) then
                            False
                          else
                            bif
                                decide
                                  (IntKind.i64.wrap (0 + nextR xs 3 101) ≤
                                    IntKind.i64.wrap (IntKind.i64.wrap (0 + nextR xs 3 101) - 1000)) then
                              False
                            else
                              bif decide (IntKind.i64.wrap (0 + nextR xs 3 101) ≥ 0) then
                                bif !decide (IntKind.i64.wrap (0 + nextR xs 3 101) < 345686400000) then False
                                else
                                  bif
                                      decide
                                        (IntKind.i64.wrap (0 + nextR xs 3 101) < IntKind.i64.wrap (0 + nextR xs 3 101)) then
                                    False
                                  else
                                    bif decide (IntKind.i64.wrap (0 + nextR xs 3 101) ≥ 0) then
                                      bif !decide (IntKind.i64.wrap (0 + nextR xs 3 101) < 345686400000) then False
                                      else
                                        bif
                                            decide
                                              (IntKind.i64.wrap (0 + nextR xs 3 101) <
                                                IntKind.i64.wrap (0 + nextR xs 3 101)) then
                                          False
                                        else
                                          bif
                                              decide
                                                (IntKind.i64.wrap (0 + nextR xs 3 101) ≤
                                                  IntKind.i64.wrap (IntKind.i64.wrap (0 + nextR xs 3 101) - 1000)) then
                                            False
                                          else
                                            bif
                                                decide
                                                  (IntKind.i64.wrap (0 + nextR xs 3 101) ≤
                                                    IntKind.i64.wrap (IntKind.i64.wrap (0 + nextR xs 3 101) - 1000)) then
                                              False
                                            else
                                              bif decide (IntKind.i64.wrap (0 + nextR xs 3 101) ≥ 0) then
                                                bif !decide (IntKind.i64.wrap (0 + nextR xs 3 101) < 345686400000) then
                                                  False
                                                else
                                                  bif
                                                      decide
                                                        (IntKind.i64.wrap (0 + nextR xs 3 101) <
                                                          IntKind.i64.wrap (0 + nextR xs 3 101)) then
                                                    False
                                                  else
                                                    bif decide (IntKind.i64.wrap (0 + nextR xs 3 101) ≥ 0) then
                                                      bif
                                                          !decide
                                                              (IntKind.i64.wrap (0 + nextR xs 3 101) < 345686400000) then
                                                        False
                                                      else
                                                        bif
                                                            decide
                                                              (IntKind.i64.wrap (0 + nextR xs 3 101) <
                                                                IntKind.i64.wrap (0 + nextR xs 3 101)) then
                                                          False
                                                        else
                                                          bif
                                                              decide
                                                                (IntKind.i64.wrap (0 + nextR xs 3 101) ≤
                                                                  IntKind.i64.wrap
                                                                    (IntKind.i64.wrap (0 + nextR xs 3 101) - 1000)) then
                                                            False
                                                          else
                                                            bif
                                                                decide
                                                                  (IntKind.i64.wrap (0 + nextR xs 3 101) ≤
                                                                    IntKind.i64.wrap
                                                                      (IntKind.i64.wrap (0 + nextR xs 3 101) - 1000)) then
                                                              False
                                                            else
                                                              bif
                                                                  decide
                                                                    (IntKind.i64.wrap (0 + nextR xs 3 101) ≤
                                                                      IntKind.i64.wrap
                                                                        (IntKind.i64.wrap (0 + nextR xs 3 101) - 1000)) then
                                                                False
                                                              else
                                                                bif
                                                                    decide
                                                                      (IntKind.i64.wrap
                                                                          (IntKind.i64.wrap (1 + nextR xs 1 50) - 1) <
                                                                        0) then
                                                                  False
                                                                else
                                                                  bif
                                                                      decide
                                                                              (1 ≤
                                                                                IntKind.i64.wrap
                                                                                  (IntKind.i64.wrap
                                                                                      (IntKind.i64.wrap
                                                                                          (IntKind.i64.wrap
                                                                                              (1 + nextR xs 1 50) -
                                                                                            1) -
                                                                                        0) +
                                                                                    1)) &&
                                                                            decide
                                                                              (IntKind.i64.wrap
                                                                                  (IntKind.i64.wrap
                                                                                      (IntKind.i64.wrap
                                                                                          (IntKind.i64.wrap
                                                                                              (1 + nextR xs 1 50) -
                                                                                            1) -
                                                                                        0) +
                                                                                    1) ≤
                                                                                1000000000) &&
                                                                          true &&
                                                                        allInts xs then
                                                                    bif
                                                                        decide
                                                                          (IntKind.i64.wrap
                                                                              (IntKind.i64.wrap (0 + nextR xs 3 101) +
                                                                                IntKind.i64.wrap
                                                                                  (0 +
                                                                                    nextR xs 4
                                                                                      (IntKind.i64.wrap
                                                                                        (IntKind.i64.wrap
                                                                                            (IntKind.i64.wrap
                                                                                                (IntKind.i64.wrap
                                                                                                    (1 + nextR xs 1 50) -
                                                                                                  1) -
                                                                                              0) +
                                                                                          1)))) ≥
                                                                            0) then
                                                                      bif
                                                                          !decide
                                                                              (IntKind.i64.wrap
                                                                                  (IntKind.i64.wrap (0 + nextR xs 3 101) +
                                                                                    IntKind.i64.wrap
                                                                                      (0 +
                                                                                        nextR xs 4
                                                                                          (IntKind.i64.wrap
                                                                                            (IntKind.i64.wrap
                                                                                                (IntKind.i64.wrap
                                                                                                    (IntKind.i64.wrap
                                                                                                        (1 +
                                                                                                          nextR xs 1 50) -
                                                                                                      1) -
                                                                                                  0) +
                                                                                              1)))) <
                                                                                345686400000) then
                                                                        False
                                                                      else
                                                                        bif
                                                                            decide
                                                                              (IntKind.i64.wrap
                                                                                  (IntKind.i64.wrap (0 + nextR xs 3 101) +
                                                                                    IntKind.i64.wrap
                                                                                      (0 +
                                                                                        nextR xs 4
                                                                                          (IntKind.i64.wrap
                                                                                            (IntKind.i64.wrap
                                                                                                (IntKind.i64.wrap
                                                                                                    (IntKind.i64.wrap
                                                                                                        (1 +
                                                                                                          nextR xs 1 50) -
                                                                                                      1) -
                                                                                                  0) +
                                                                                              1)))) <
                                                                                IntKind.i64.wrap (0 + nextR xs 3 101)) then
                                                                          False
                                                                        else
                                                                          bif
                                                                              decide
                                                                                (IntKind.i64.wrap
                                                                                    (IntKind.i64.wrap (0 + nextR xs 3 101) +
                                                                                      IntKind.i64.wrap
                                                                                        (0 +
                                                                                          nextR xs 4
                                                                                            (IntKind.i64.wrap
                                                                                              (IntKind.i64.wrap
                                                                                                  (IntKind.i64.wrap
                                                                                                      (IntKind.i64.wrap
                                                                                                          (1 +
                                                                                                            nextR xs 1 50) -
                                                                                                        1) -
                                                                                                    0) +
                                                                                                1)))) ≥
                                                                                  IntKind.i64.wrap
                                                                                    (IntKind.i64.wrap (0 + nextR xs 3 101) +
                                                                                      IntKind.i64.wrap
                                                                                        (1 + nextR xs 1 50))) then
                                                                            False
                                                                          else
                                                                            bif
                                                                                decide
                                                                                  (IntKind.i64.wrap
                                                                                      (IntKind.i64.wrap
                                                                                          (0 + nextR xs 3 101) +
                                                                                        IntKind.i64.wrap
                                                                                          (1 + nextR xs 1 50)) ≥
                                                                                    0) then
                                                                              bif
                                                                                  !decide
                                                                                      (IntKind.i64.wrap
                                                                                          (IntKind.i64.wrap
                                                                                              (0 + nextR xs 3 101) +
                                                                                            IntKind.i64.wrap
                                                                                              (1 + nextR xs 1 50)) <
                                                                                        345686400000) then
                                                                                False
                                                                              else
                                                                                bif
                                                                                    decide
                                                                                      (IntKind.i64.wrap
                                                                                          (IntKind.i64.wrap
                                                                                              (0 + nextR xs 3 101) +
                                                                                            IntKind.i64.wrap
                                                                                              (1 + nextR xs 1 50)) <
                                                                                        IntKind.i64.wrap
                                                                                          (IntKind.i64.wrap
                                                                                              (0 + nextR xs 3 101) +
                                                                                            IntKind.i64.wrap
                                                                                              (0 +
                                                                                                nextR xs 4
                                                                                                  (IntKind.i64.wrap
                                                                                                    (IntKind.i64.wrap
                                                                                                        (IntKind.i64.wrap
                                                                                                            (IntKind.i64.wrap
                                                                                                                (1 +
                                                                                                                  nextR xs 1
                                                                                                                    50) -
                                                                                                              1) -
                                                                                                          0) +
                                                                                                      1))))) then
                                                                                  False
                                                                                else
                                                                                  bif
                                                                                      decide
                                                                                        (IntKind.i64.wrap
                                                                                            (IntKind.i64.wrap
                                                                                                (0 + nextR xs 3 101) +
                                                                                              IntKind.i64.wrap
                                                                                                (1 + nextR xs 1 50)) ≥
                                                                                          IntKind.i64.wrap
                                                                                            (IntKind.i64.wrap
                                                                                                (0 + nextR xs 3 101) +
                                                                                              IntKind.i64.wrap
                                                                                                (1 + nextR xs 1 50))) then
                                                                                    bif
                                                                                        decide
                                                                                          (IntKind.i64.wrap
                                                                                              (IntKind.i64.wrap
                                                                                                  (0 + nextR xs 3 101) +
                                                                                                IntKind.i64.wrap
                                                                                                  (1 + nextR xs 1 50)) ≥
                                                                                            0) then
                                                                                      bif
                                                                                          !decide
                                                                                              (IntKind.i64.wrap
                                                                                                  (IntKind.i64.wrap
                                                                                                      (0 + nextR xs 3 101) +
                                                                                                    IntKind.i64.wrap
                                                                                                      (1 + nextR xs 1 50)) <
                                                                                                345686400000) then
                                                                                        False
                                                                                      else
                                                                                        bif
                                                                                            decide
                                                                                              (IntKind.i64.wrap
                                                                                                  (IntKind.i64.wrap
                                                                                                      (0 + nextR xs 3 101) +
                                                                                                    IntKind.i64.wrap
                                                                                                      (1 + nextR xs 1 50)) <
                                                                                                IntKind.i64.wrap
                                                                                                  (IntKind.i64.wrap
                                                                                                      (0 + nextR xs 3 101) +
                                                                                                    IntKind.i64.wrap
                                                                                                      (1 +
                                                                                                        nextR xs 1
                                                                                                          50))) then
                                                                                          False
                                                                                        else
                                                                                          bif
                                                                                              decide
                                                                                                (IntKind.i64.wrap
                                                                                                    (IntKind.i64.wrap
                                                                                                        (0 +
                                                                                                          nextR xs 3 101) +
                                                                                                      IntKind.i64.wrap
                                                                                                        (1 +
                                                                                                          nextR xs 1 50)) ≥
                                                                                                  0) then
                                                                                            bif
                                                                                                !decide
                                                                                                    (IntKind.i64.wrap
                                                                                                        (IntKind.i64.wrap
                                                                                                            (0 +
                                                                                                              nextR xs 3
                                                                                                                101) +
                                                                                                          IntKind.i64.wrap
                                                                                                            (1 +
                                                                                                              nextR xs 1
                                                                                                                50)) <
                                                                                                      345686400000) then
                                                                                              False
                                                                                            else
                                                                                              bif
                                                                                                  decide
                                                                                                    (IntKind.i64.wrap
                                                                                                        (IntKind.i64.wrap
                                                                                                            (0 +
                                                                                                              nextR xs 3
                                                                                                                101) +
                                                                                                          IntKind.i64.wrap
                                                                                                            (1 +
                                                                                                              nextR xs 1
                                                                                                                50)) <
                                                                                                      IntKind.i64.wrap
                                                                                                        (IntKind.i64.wrap
                                                                                                            (0 +
                                                                                                              nextR xs 3
                                                                                                                101) +
                                                                                                          IntKind.i64.wrap
                                                                                                            (1 +
                                                                                                              nextR xs 1
                                                                                                                50))) then
                                                                                                False
                                                                                              else
                                                                                                bif
                                                                                                    decide
                                                                                                      (IntKind.i64.wrap
                                                                                                          (IntKind.i64.wrap
                                                                                                              (0 +
                                                                                                                nextR xs 3
                                                                                                                  101) +
                                                                                                            IntKind.i64.wrap
                                                                                                              (1 +
                                                                                                                nextR xs 1
                                                                                                                  50)) ≥
                                                                                                        0) then
                                                                                                  bif
                                                                                                      !decide
                                                                                                          (IntKind.i64.wrap
                                                                                                              (IntKind.i64.wrap
                                                                                                                  (0 +
                                                                                                                    nextR xs
                                                                                                                      3
                                                                                                                      101) +
                                                                                                                IntKind.i64.wrap
                                                                                                                  (1 +
                                                                                                                    nextR xs
                                                                                                                      1
                                                                                                                      50)) <
                                                                                                            345686400000) then
                                                                                                    False
                                                                                                  else
                                                                                                    bif
                                                                                                        decide
                                                                                                          (IntKind.i64.wrap
                                                                                                              (IntKind.i64.wrap
                                                                                                                  (0 +
                                                                                                                    nextR xs
                                                                                                                      3
                                                                                                                      101) +
                                                                                                                IntKind.i64.wrap
                                                                                                                  (1 +
                                                                                                                    nextR xs
                                                                                                                      1
                                                                                                                      50)) <
                                                                                                            IntKind.i64.wrap
                                                                                                              (IntKind.i64.wrap
                                                                                                                  (0 +
                                                                                                                    nextR xs
                                                                                                                      3
                                                                                                                      101) +
                                                                                                                IntKind.i64.wrap
                                                                                                                  (1 +
                                                                                                                    nextR xs
                                                                                                                      1
                                                                                                                      50))) then
                                                                                                      False
                                                                                                    else
                                                                                                      Q
                                                                                                        (Value.bool
                                                                                                          (bif true then
                                                                                                            true
                                                                                                          else false))
                                                                                                else False
                                                                                          else False
                                                                                    else False
                                                                                  else False
                                                                            else False
                                                                    else False
                                                                  else False
                                                    else False
                                              else False
                                    else False
                              else False
                      else False
                else False
              else False
        else False
      else False
    else False := by kernel_rfl
theorem sw21 (xs : Array Value) (Q : Value → Prop) : (sfn Tryz.prog (SL [some 2, none, some 1]) [(213037, false), (573180, false), (221474, true), (221476, false), (865745, false), (680815, true), (680817, false), (105271, false), (934341, false), (36470, true), (36472, false), (130636, false), (40725, true), (40727, false), (262541, false), (104639, false), (243808, false), (816932, true), (816934, false), (324886, false), (761449, true), (761451, false), (604919, false), (474648, false), (714054, false), (135616, false), (34035, false), (55089, true), (55091, false), (707825, false), (218021, false), (121531, true), (121533, false), (767521, false), (585706, true), (109334, true), (109336, false), (389414, false), (382021, true), (382023, false), (842687, false), (407848, true), (407850, false), (643321, false), (192986, true), (192988, false), (982620, false), (152189, true), (152191, false), (717916, false)] 150 [] Tryz.f5 [fz xs] h0 (fun v _ => Q v)) =
    bif decide (nextR xs 0 3 = 2) && allInts xs then
      bif allInts xs then
        bif decide (nextR xs 2 2 = 1) && allInts xs then
          bif decide (IntKind.i64.wrap (1 + nextR xs 1 50) < 1) then False
          else
            bif decide (IntKind.i64.wrap (1 + nextR xs 1 50) > 3600000) then False
            else
              bif allInts xs then
                bif decide (IntKind.i64.wrap (0 + nextR xs 3 101) ≥ 0) then
                  bif !decide (IntKind.i64.wrap (0 + nextR xs 3 101) < 345686400000) then False
                  else
                    bif decide (IntKind.i64.wrap (0 + nextR xs 3 101) < 0) then False
                    else
                      bif decide (IntKind.i64.wrap (0 + nextR xs 3 101) ≥ 0) then
                        bif !decide (IntKind.i64.wrap (0 + nextR xs 3 101) < 345686400000) then False
                        else
                          bif decide (IntKind.i64.wrap (0 + nextR xs 3 101) < IntKind.i64.wrap (0 + nextR xs 3 101)) then
                            False
                          else
                            bif
                                decide
                                  (IntKind.i64.wrap (0 + nextR xs 3 101) ≤
                                    IntKind.i64.wrap (IntKind.i64.wrap (0 + nextR xs 3 101) - 1000)) then
                              False
                            else
                              bif decide (IntKind.i64.wrap (0 + nextR xs 3 101) ≥ 0) then
                                bif !decide (IntKind.i64.wrap (0 + nextR xs 3 101) < 345686400000) then False
                                else
                                  bif
                                      decide
                                        (IntKind.i64.wrap (0 + nextR xs 3 101) < IntKind.i64.wrap (0 + nextR xs 3 101)) then
                                    False
                                  else
                                    bif decide (IntKind.i64.wrap (0 + nextR xs 3 101) ≥ 0) then
                                      bif !decide (IntKind.i64.wrap (0 + nextR xs 3 101) < 345686400000) then False
                                      else
                                        bif
                                            decide
                                              (IntKind.i64.wrap (0 + nextR xs 3 101) <
                                                IntKind.i64.wrap (0 + nextR xs 3 101)) then
                                          False
                                        else
                                          bif
                                              decide
                                                (IntKind.i64.wrap (0 + nextR xs 3 101) ≤
                                                  IntKind.i64.wrap (IntKind.i64.wrap (0 + nextR xs 3 101) - 1000)) then
                                            False
                                          else
                                            bif
                                                decide
                                                  (IntKind.i64.wrap (0 + nextR xs 3 101) ≤
                                                    IntKind.i64.wrap (IntKind.i64.wrap (0 + nextR xs 3 101) - 1000)) then
                                              False
                                            else
                                              bif decide (IntKind.i64.wrap (0 + nextR xs 3 101) ≥ 0) then
                                                bif !decide (IntKind.i64.wrap (0 + nextR xs 3 101) < 345686400000) then
                                                  False
                                                else
                                                  bif
                                                      decide
                                                        (IntKind.i64.wrap (0 + nextR xs 3 101) <
                                                          IntKind.i64.wrap (0 + nextR xs 3 101)) then
                                                    False
                                                  else
                                                    bif decide (IntKind.i64.wrap (0 + nextR xs 3 101) ≥ 0) then
                                                      bif
                                                          !decide
                                                              (IntKind.i64.wrap (0 + nextR xs 3 101) < 345686400000) then
                                                        False
                                                      else
                                                        bif
                                                            decide
                                                              (IntKind.i64.wrap (0 + nextR xs 3 101) <
                                                                IntKind.i64.wrap (0 + nextR xs 3 101)) then
                                                          False
                                                        else
                                                          bif
                                                              decide
                                                                (IntKind.i64.wrap (0 + nextR xs 3 101) ≤
                                                                  IntKind.i64.wrap
                                                                    (IntKind.i64.wrap (0 + nextR xs 3 101) - 1000)) then
                                                            False
                                                          else
                                                            bif
                                                                decide
                                                                  (IntKind.i64.wrap (0 + nextR xs 3 101) ≤
                                                                    IntKind.i64.wrap
                                                                      (IntKind.i64.wrap (0 + nextR xs 3 101) - 1000)) then
                                                              False
                                                            else
                                                              bif
                                                                  decide
                                                                    (IntKind.i64.wrap (0 + nextR xs 3 101) ≤
                                                                      IntKind.i64.wrap
                                                                        (IntKind.i64.wrap (0 + nextR xs 3 101) - 1000)) then
                                                                False
                                                              else
                                                                bif
                                                                    decide
                                                                      (IntKind.i64.wrap
                                                                          (IntKind.i64.wrap (1 + nextR xs 1 50) - 1) <
                                                                        0) then
                                                                  False
                                                                else
                                                                  bif
                                                                      decide
                                                                              (1 ≤
                                                                                IntKind.i64.wrap
                                                                                  (IntKind.i64.wrap
                                                                                      (IntKind.i64.wrap
                                                                                          (IntKind.i64.wrap
                                                                                              (1 + nextR xs 1 50) -
                                                                                            1) -
                                                                                        0) +
                                                                                    1)) &&
                                                                            decide
                                                                              (IntKind.i64.wrap
                                                                                  (IntKind.i64.wrap
                                                                                      (IntKind.i64.wrap
                                                                                          (IntKind.i64.wrap
                                                                                              (1 + nextR xs 1 50) -
                                                                                            1) -
                                                                                        0) +
                                                                                    1) ≤
                                                                                1000000000) &&
                                                                          true &&
                                                                        allInts xs then
                                                                    bif
                                                                        decide
                                                                          (IntKind.i64.wrap
                                                                              (IntKind.i64.wrap (0 + nextR xs 3 101) +
                                                                                IntKind.i64.wrap
                                                                                  (0 +
                                                                                    nextR xs 4
                                                                                      (IntKind.i64.wrap
                                                                                        (IntKind.i64.wrap
                                                                                            (IntKind.i64.wrap
                                                                                                (IntKind.i64.wrap
                                                                                                    (1 + nextR xs 1 50) -
                                                                                                  1) -
                                                                                              0) +
                                                                                          1)))) ≥
                                                                            0) then
                                                                      bif
                                                                          !decide
                                                                              (IntKind.i64.wrap
                                                                                  (IntKind.i64.wrap (0 + nextR xs 3 101) +
                                                                                    IntKind.i64.wrap
                                                                                      (0 +
                                                                                        nextR xs 4
                                                                                          (IntKind.i64.wrap
                                                                                            (IntKind.i64.wrap
                                                                                                (IntKind.i64.wrap
                                                                                                    (IntKind.i64.wrap
                                                                                                        (1 +
                                                                                                          nextR xs 1 50) -
                                                                                                      1) -
                                                                                                  0) +
                                                                                              1)))) <
                                                                                345686400000) then
                                                                        False
                                                                      else
                                                                        bif
                                                                            decide
                                                                              (IntKind.i64.wrap
                                                                                  (IntKind.i64.wrap (0 + nextR xs 3 101) +
                                                                                    IntKind.i64.wrap
                                                                                      (0 +
                                                                                        nextR xs 4
                                                                                          (IntKind.i64.wrap
                                                                                            (IntKind.i64.wrap
                                                                                                (IntKind.i64.wrap
                                                                                                    (IntKind.i64.wrap
                                                                                                        (1 +
                                                                                                          nextR xs 1 50) -
                                                                                                      1) -
                                                                                                  0) +
                                                                                              1)))) <
                                                                                IntKind.i64.wrap (0 + nextR xs 3 101)) then
                                                                          False
                                                                        else
                                                                          bif
                                                                              decide
                                                                                (IntKind.i64.wrap
                                                                                    (IntKind.i64.wrap (0 + nextR xs 3 101) +
                                                                                      IntKind.i64.wrap
                                                                                        (0 +
                                                                                          nextR xs 4
                                                                                            (IntKind.i64.wrap
                                                                                              (IntKind.i64.wrap
                                                                                                  (IntKind.i64.wrap
                                                                                                      (IntKind.i64.wrap
                                                                                                          (1 +
                                                                                                            nextR xs 1 50) -
                                                                                                        1) -
                                                                                                    0) +
                                                                                                1)))) ≥
                                                                                  IntKind.i64.wrap
                                                                                    (IntKind.i64.wrap (0 + nextR xs 3 101) +
                                                                                      IntKind.i64.wrap
                                                                                        (1 + nextR xs 1 50))) then
                                                                            False
                                                                          else
                                                                            bif
                                                                                decide
                                                                                  (IntKind.i64.wrap
                                                                                      (IntKind.i64.wrap
                                                                                          (0 + nextR xs 3 101) +
                                                                                        IntKind.i64.wrap
                                                                                          (1 + nextR xs 1 50)) ≥
                                                                                    0) then
                                                                              bif
                                                                                  !decide
                                                                                      (IntKind.i64.wrap
                                                                                          (IntKind.i64.wrap
                                                                                              (0 + nextR xs 3 101) +
                                                                                            IntKind.i64.wrap
                                                                                              (1 + nextR xs 1 50)) <
                                                                                        345686400000) then
                                                                                False
                                                                              else
                                                                                bif
                                                                                    decide
                                                                                      (IntKind.i64.wrap
                                                                                          (IntKind.i64.wrap
                                                                                              (0 + nextR xs 3 101) +
                                                                                            IntKind.i64.wrap
                                                                                              (1 + nextR xs 1 50)) <
                                                                                        IntKind.i64.wrap
                                                                                          (IntKind.i64.wrap
                                                                                              (0 + nextR xs 3 101) +
                                                                                            IntKind.i64.wrap
                                                                                              (0 +
                                                                                                nextR xs 4
                                                                                                  (IntKind.i64.wrap
                                                                                                    (IntKind.i64.wrap
                                                                                                        (IntKind.i64.wrap
                                                                                                            (IntKind.i64.wrap
                                                                                                                (1 +
                                                                                                                  nextR xs 1
                                                                                                                    50) -
                                                                                                              1) -
                                                                                                          0) +
                                                                                                      1))))) then
                                                                                  False
                                                                                else
                                                                                  bif
                                                                                      decide
                                                                                        (IntKind.i64.wrap
                                                                                            (IntKind.i64.wrap
                                                                                                (0 + nextR xs 3 101) +
                                                                                              IntKind.i64.wrap
                                                                                                (1 + nextR xs 1 50)) ≥
                                                                                          IntKind.i64.wrap
                                                                                            (IntKind.i64.wrap
                                                                                                (0 + nextR xs 3 101) +
                                                                                              IntKind.i64.wrap
                                                                                                (1 + nextR xs 1 50))) then
                                                                                    bif
                                                                                        decide
                                                                                          (IntKind.i64.wrap
                                                                                              (IntKind.i64.wrap
                                                                                                  (0 + nextR xs 3 101) +
                                                                                                IntKind.i64.wrap
                                                                                                  (1 + nextR xs 1 50)) ≥
                                                                                            0) then
                                                                                      bif
                                                                                          !decide
                                                                                              (IntKind.i64.wrap
                                                                                                  (IntKind.i64.wrap
                                                                                                      (0 + nextR xs 3 101) +
                                                                                                    IntKind.i64.wrap
                                                                                                      (1 + nextR xs 1 50)) <
                                                                                                345686400000) then
                                                                                        False
                                                                                      else
                                                                                        bif
                                                                                            decide
                                                                                              (IntKind.i64.wrap
                                                                                                  (IntKind.i64.wrap
                                                                                                      (0 + nextR xs 3 101) +
                                                                                                    IntKind.i64.wrap
                                                                                                      (1 + nextR xs 1 50)) <
                                                                                                IntKind.i64.wrap
                                                                                                  (IntKind.i64.wrap
                                                                                                      (0 + nextR xs 3 101) +
                                                                                                    IntKind.i64.wrap
                                                                                                      (1 +
                                                                                                        nextR xs 1
                                                                                                          50))) then
                                                                                          False
                                                                                        else
                                                                                          bif
                                                                                              decide
                                                                                                (IntKind.i64.wrap
                                                                                                    (IntKind.i64.wrap
                                                                                                        (0 +
                                                                                                          nextR xs 3 101) +
                                                                                                      IntKind.i64.wrap
                                                                                                        (1 +
                                                                                                          nextR xs 1 50)) ≥
                                                                                                  0) then
                                                                                            bif
                                                                                                !decide
                                                                                                    (IntKind.i64.wrap
                                                                                                        (IntKind.i64.wrap
                                                                                                            (0 +
                                                                                                              nextR xs 3
                                                                                                                101) +
                                                                                                          IntKind.i64.wrap
                                                                                                            (1 +
                                                                                                              nextR xs 1
                                                                                                                50)) <
                                                                                                      345686400000) then
                                                                                              False
                                                                                            else
                                                                                              bif
                                                                                                  decide
                                                                                                    (IntKind.i64.wrap
                                                                                                        (IntKind.i64.wrap
                                                                                                            (0 +
                                                                                                              nextR xs 3
                                                                                                                101) +
                                                                                                          IntKind.i64.wrap
                                                                                                            (1 +
                                                                                                              nextR xs 1
                                                                                                                50)) <
                                                                                                      IntKind.i64.wrap
                                                                                                        (IntKind.i64.wrap
                                                                                                            (0 +
                                                                                                              nextR xs 3
                                                                                                                101) +
                                                                                                          IntKind.i64.wrap
                                                                                                            (1 +
                                                                                                              nextR xs 1
                                                                                                                50))) then
                                                                                                False
                                                                                              else
                                                                                                bif
                                                                                                    decide
                                                                                                      (IntKind.i64.wrap
                                                                                                          (IntKind.i64.wrap
                                                                                                              (0 +
                                                                                                                nextR xs 3
                                                                                                                  101) +
                                                                                                            IntKind.i64.wrap
                                                                                                              (1 +
                                                                                                                nextR xs 1
                                                                                                                  50)) ≥
                                                                                                        0) then
                                                                                                  bif
                                                                                                      !decide
                                                                                                          (IntKind.i64.wrap
                                                                                                              (IntKind.i64.wrap
                                                                                                                  (0 +
                                                                                                                    nextR xs
                                                                                                                      3
                                                                                                                      101) +
                                                                                                                IntKind.i64.wrap
                                                                                                                  (1 +
                                                                                                                    nextR xs
                                                                                                                      1
                                                                                                                      50)) <
                                                                                                            345686400000) then
                                                                                                    False
                                                                                                  else
                                                                                                    bif
                                                                                                        decide
                                                                                                          (IntKind.i64.wrap
                                                                                                              (IntKind.i64.wrap
                                                                                                                  (0 +
                                                                                                                    nextR xs
                                                                                                                      3
                                                                                                                      101) +
                                                                                                                IntKind.i64.wrap
                                                                                                                  (1 +
                                                                                                                    nextR xs
                                                                                                                      1
                                                                                                                      50)) <
                                                                                                            IntKind.i64.wrap
                                                                                                              (IntKind.i64.wrap
                                                                                                                  (0 +
                                                                                                                    nextR xs
                                                                                                                      3
                                                                                                                      101) +
                                                                                                                IntKind.i64.wrap
                                                                                                                  (1 +
                                                                                                                    nextR xs
                                                                                                                      1
                                                                                                                      50))) then
                                                                                                      False
                                                                                                    else
                                                                                                      bif
                                                                                                          decide
                                                                                                            (IntKind.i64.wrap
                                                                                                                (IntKind.i64.wrap
                                                                                                                    (0 +
                                                                                                                      nextR
                                                                                                                        xs 3
                                                                                                                        101) +
                                                                                                                  IntKind.i64.wrap
                                                                                                                    (1 +
                                                                                                                      nextR
                                                                                                                        xs 1
                                                                                                                        50)) ≥
                                                                                                              0) then
                                                                                                        bif
                                                                                                            !decide
                                                                                                                (IntKind.i64.wrap
                                                                                                                    (IntKind.i64.wrap
                                                                                                                        (0 +
                                                                                                                          nextR
                                                                                                                            xs
                                                                                                                            3
                                                                                                                            101) +
                                                                                                                      IntKind.i64.wrap
                                                                                                                        (1 +
                                                                                                                          nextR
                                                                                                                            xs
                                                                                                                            1
                                                                                                                            50)) <
                                                                                                                  345686400000) then
                                                                                                          False
                                                                                                        else
                                                                                                          bif
                                                                                                              decide
                                                                                                                (IntKind.i64.wrap
                                                                                                                    (IntKind.i64.wrap
                                                                                                                        (0 +
                                                                                                                          nextR
                                                                                                                            xs
                                                                                                                            3
                                                                                                                            101) +
                                                                                                                      IntKind.i64.wrap
                                                                                                                        (1 +
                                                                                                                          nextR
                                                                                                                            xs
                                                                                                                            1
                                                                                                                            50)) <
                                                                                                                  IntKind.i64.wrap
                                                                                                                    (IntKind.i64.wrap
                                                                                                                        (0 +
                                                                                                                          nextR
                                                                                                                            xs
                                                                                                                            3
                                                                                                                            101) +
                                                                                                                      IntKind.i64.wrap
                                                                                                                        (1 +
                                                                                                                          nextR
                                                                                                                            xs
                                                                                                                            1
                                                                                                                            50))) then
                                                                                                            False
                                                                                                          else
                                                                                                            bif
                                                                                                                decide
                                                                                                                  (IntKind.i64.wrap
                                                                                                                      (IntKind.i64.wrap
                                                                                                                          (0 +
                                                                                                                            nextR
                                                                                                                              xs
                                                                                                                              3
                                                                                                                              101) +
                                                                                                                        IntKind.i64.wrap
                                                                                                                          (1 +
                                                                                                                            nextR
                                                                                                                              xs
                                                                                                                              1
                                                                                                                              50)) ≥
                                                                                                                    0) then
                                                                                                              bif
                                                                                                                  !decide
                                                                                                                      (IntKind.i64.wrap
                                                                                                                          (IntKind.i64.wrap
                                                                                                                              (0 +
                                                                                                                                nextR
                                                                                                                                  xs
                                                                                                                                  3
                                                                                                                                  101) +
                                                                                                                            IntKind.i64.wrap
                                                                                                                              (1 +
                                                                                                                                nextR
                                                                                                                                  xs
                                                                                                                                  1
                                                                                                                                  50)) <
                                                                                                                        345686400000) then
                                                                                                                False
                                                                                                              else
                                                                                                                bif
                                                                                                                    decide
                                                                                                                      (IntKind.i64.wrap
                                                                                                                          (IntKind.i64.wrap
                                                                                                                              (0 +
                                                                                                                                nextR
                                                                                                                                  xs
                                                                                                                                  3
                                                                                                                                  101) +
                                                                                                                            IntKind.i64.wrap
                                                                                                                              (1 +
                                                                                                                                nextR
                                                                                                                                  xs
                                                                                                                                  1
                                                                                                                                  50)) <
                                                                                                                        IntKind.i64.wrap
                                                                                                                          (IntKind.i64.wrap
                                                                                                                              (0 +
                                                                                                                                nextR
                                                                                                                                  xs
                                                                                                                                  3
                                                                                                                                  101) +
                                                                                                                            IntKind.i64.wrap
                                                                                                                              (1 +
                                                                                                                                nextR
                                                                                                                                  xs
                                                                                                                                  1
                                                                                                                                  50))) then
                                                                                                                  False
                                                                                                                else
                                                                                                                  Q
                                                                                                                    (Value.bool
                                                                                                                      (bif
                                                                                                                          true then
                                                                                                                        true
                                                                                                                      else
                                                                                                                        false))
                                                                                                            else False
                                                                                                      else False
                                                                                                else False
                                                                                          else False
                                                                                    else False
                                                                                  else False
                                                                            else False
                                                                    else False
                                                                  else False
                                                    else False
                                              else False
                                    else False
                              else False
                      else False
                else False
              else False
        else False
      else False
    else False := by kernel_rfl

set_option maxRecDepth 100000 in
set_option maxHeartbeats 4000000 in
theorem law20 (zs : List Int) (k0 : nextR (intsV zs) 0 3 = 2) (k2 : nextR (intsV zs) 2 2 = 0) : FnOK 0 Tryz.prog 5 ⟨[fz (intsV zs)]⟩ h0 (fun v _ => v = .bool true) := by
  refine FnOK.tree (SL_ok _) mixed Tryz.func5 some5 (sw20 (intsV zs) fun v => v = .bool true) ?_
  have b1 := (nextR_spec zs 50 1 (by omega) (by omega) (by omega) (by omega)).1
  have b3 := (nextR_spec zs 101 3 (by omega) (by omega) (by omega) (by omega)).1
  have b4 := fun n (h1 : 1 ≤ n) (h2 : n ≤ 4611686018427387904) => (nextR_spec zs n 4 (by omega) (by omega) h1 h2).1
  have ha := allInts_intsV zs
  generalize intsV zs = xs at *
  generalize nextR xs 1 50 = r1 at *
  generalize nextR xs 3 101 = r3 at *
  simp only [ha, k0, k2, decide_true, Bool.and_true, cond_true]
  simp (disch := omega) only [wrap_id]
  have b4 := b4 (1 + r1 - 1 - 0 + 1) (by omega) (by omega)
  generalize nextR xs 4 (1 + r1 - 1 - 0 + 1) = r4 at *
  simp (disch := omega) only [wrap_id]
  repeat (first | (refine need_mk (by first | (simp; done) | (simp; omega)) ?_) | (refine cut_mk (by first | (simp; done) | (simp; omega)) ?_))
  first | rfl | trivial

set_option maxRecDepth 100000 in
set_option maxHeartbeats 4000000 in
theorem law21 (zs : List Int) (k0 : nextR (intsV zs) 0 3 = 2) (k2 : nextR (intsV zs) 2 2 = 1) : FnOK 0 Tryz.prog 5 ⟨[fz (intsV zs)]⟩ h0 (fun v _ => v = .bool true) := by
  refine FnOK.tree (SL_ok _) mixed Tryz.func5 some5 (sw21 (intsV zs) fun v => v = .bool true) ?_
  have b1 := (nextR_spec zs 50 1 (by omega) (by omega) (by omega) (by omega)).1
  have b3 := (nextR_spec zs 101 3 (by omega) (by omega) (by omega) (by omega)).1
  have b4 := fun n (h1 : 1 ≤ n) (h2 : n ≤ 4611686018427387904) => (nextR_spec zs n 4 (by omega) (by omega) h1 h2).1
  have ha := allInts_intsV zs
  generalize intsV zs = xs at *
  generalize nextR xs 1 50 = r1 at *
  generalize nextR xs 3 101 = r3 at *
  simp only [ha, k0, k2, decide_true, Bool.and_true, cond_true]
  simp (disch := omega) only [wrap_id]
  have b4 := b4 (1 + r1 - 1 - 0 + 1) (by omega) (by omega)
  generalize nextR xs 4 (1 + r1 - 1 - 0 + 1) = r4 at *
  simp (disch := omega) only [wrap_id]
  repeat (first | (refine need_mk (by first | (simp; done) | (simp; omega)) ?_) | (refine cut_mk (by first | (simp; done) | (simp; omega)) ?_))
  first | rfl | trivial
end Go.Proofs.YtknllcjhbgdjjaaGreatDoor
