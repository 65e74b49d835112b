/-
  Queries: the law.
-/
import Derived.Test.YtnaeehnkabojdaaGreatDoorQuZ
import Derived.Test.YtnaeehnkabojdaaGreatDoorQuL1
namespace Go.Proofs.YtnaeehnkabojdaaGreatDoor
open Go.Ev Go.RowKit RecLaw PathLaw QueryLaw

def naL : List Value := [.string ⟨#[97]⟩, .string ⟨#[98, 32, 99]⟩, .string ⟨#[38]⟩, .string ⟨#[61]⟩, .string ⟨#[195, 169]⟩, .string ⟨#[43]⟩]
def vvL : List Value := [.string ⟨#[]⟩, .string ⟨#[49]⟩, .string ⟨#[120, 61, 121]⟩, .string ⟨#[37]⟩, .string ⟨#[32]⟩]
noncomputable def SLw (k : Nat) (e1 e2 : Bool) : SC := ⟨idn, spOr spReady (spOr (spRR 11 180 15 e1) (spOr (spNrT e2) (spOr spSr (spOr spCr (spOr spQt (spOr (cond (Nat.beq k 0) spPq0 spPqF) (spOr spEqP (spNext [some (k : Int)])))))))), true, true⟩
theorem SLw_ok (k : Nat) (e1 e2 : Bool) : (SLw k e1 e2).cfg.OK Tryz.prog := (spReady_ok.or ((spRR_ok rq_ex e1).or ((spNrT_ok e2).or (spSr_ok.or (spCr_ok.or (spQt_ok.or ((show SpOK (cond (Nat.beq k 0) spPq0 spPqF) from by cases Nat.beq k 0; exact spPqF_ok; exact spPq0_ok).or (spEqP_ok.or (spNext_ok [some (k : Int)]))))))))).cfg
noncomputable def LP (k : Nat) (e1 e2 : Bool) : Hooks := hook1 4 (thenLS (hookLS 0 80 [3, 4, 15, 16] [] [3, 4] (fun vals h K => iter 0 Tryz.prog (SLw k e1 e2) [] noHooks 3000 80 [3, 4, 15, 16] [] [3, 4] [] (oneLoop (codeOf Tryz.f3) 4) 6 vals h K)) (freezeG 80 true 2 [4]))
noncomputable def lwN (e1 e2 : Bool) (r : Rq) (T F : Prop) : Prop :=
  bif okRq (rqT e1 r) && cond e2 (noR (unR (rqT e1 r))).hs.isEmpty (!(noR (unR (rqT e1 r))).hs.isEmpty) then
    bif noE (unR (rqT e1 r)) != 0 then T else
      bif okRq (rqT e2 (noR (unR (rqT e1 r)))) && cond e2 (noR (unR (rqT e2 (noR (unR (rqT e1 r)))))).hs.isEmpty (!(noR (unR (rqT e2 (noR (unR (rqT e1 r)))))).hs.isEmpty) then
        bif noE (unR (rqT e2 (noR (unR (rqT e1 r))))) == 0 then
          bif okSr (rqT e2 (noR (unR (rqT e2 (noR (unR (rqT e1 r))))))) (rqT e2 (noR (unR (rqT e1 r)))) then
            bif okRq (rqT e2 (noR (unR (rqT e1 r)))) then bif crE (unR (rqT e2 (noR (unR (rqT e1 r))))) == 0 then T else F else False else False
        else F
      else False
  else False
noncomputable def lwR (xs : Array Value) (e1 e2 : Bool) (d : Int) (T F : Prop) : Prop :=
  bif decide (0 ≤ d) && decide (d ≤ 15) && allInts xs && (cond e1 (rrC 11 180 xs d).1.hs.isEmpty (!(rrC 11 180 xs d).1.hs.isEmpty)) then lwN e1 e2 (rrC 11 180 xs d).1 T F else False
noncomputable def lwP (L : List PB) (X F : Prop) : Prop :=
  bif okPs (L.map pvV) then
    bif LE2 (bl (qtS ((L.map pvV).map unP))) && !(pqL (bl (qtS ((L.map pvV).map unP))).data.toList).isEmpty then
      bif qtE ((L.map pvV).map unP) != 0 then F else bif okEq 4 ((pqL (bl (qtS ((L.map pvV).map unP))).data.toList).map prV) (L.map pvV) then X else False
    else False
  else False
noncomputable def lwD (xs : Array Value) (F : Int → List PB → Prop) : Nat → Int → List PB → Prop
  | 0, d, L => F d L
  | n + 1, d, L => dr xs d (rg (nextR xs d 6) 6 6 (dr xs (d + 1) (rg (nextR xs (d + 1) 5) 5 5 (lwD xs F n (d + 1 + 1) (L ++ [(gS naL (nextR xs d 6), gS vvL (nextR xs (d + 1) 5))])))))
set_option maxRecDepth 100000 in
theorem lw0_tt (xs : Array Value) (Q : Value → Prop) : tfn Tryz.prog (SLw 0 true true) [] (LP 0 true true) 3000 [] Tryz.f3 [fz xs] h0 (fun v _ => Q v) =
    drK xs 0 5 0 (bif okPs [] then lwR xs true true 1 (Q (.bool true)) (Q (.bool false)) else False) := by kernel_rfl
set_option maxRecDepth 100000 in
theorem lw0_ff (xs : Array Value) (Q : Value → Prop) : tfn Tryz.prog (SLw 0 false false) [] (LP 0 false false) 3000 [] Tryz.f3 [fz xs] h0 (fun v _ => Q v) =
    drK xs 0 5 0 (bif okPs [] then lwR xs false false 1 (Q (.bool true)) (Q (.bool false)) else False) := by kernel_rfl
set_option maxRecDepth 100000 in
theorem lw0_ft (xs : Array Value) (Q : Value → Prop) : tfn Tryz.prog (SLw 0 false true) [] (LP 0 false true) 3000 [] Tryz.f3 [fz xs] h0 (fun v _ => Q v) =
    drK xs 0 5 0 (bif okPs [] then lwR xs false true 1 (Q (.bool true)) (Q (.bool false)) else False) := by kernel_rfl
set_option maxRecDepth 100000 in
theorem lw1_tt (xs : Array Value) (Q : Value → Prop) : tfn Tryz.prog (SLw 1 true true) [] (LP 1 true true) 3000 [] Tryz.f3 [fz xs] h0 (fun v _ => Q v) =
    drK xs 0 5 1 (lwD xs (fun d L => lwP L (lwR xs true true d (Q (.bool true)) (Q (.bool false))) (Q (.bool false))) 1 1 []) := by kernel_rfl
set_option maxRecDepth 100000 in
theorem lw1_ff (xs : Array Value) (Q : Value → Prop) : tfn Tryz.prog (SLw 1 false false) [] (LP 1 false false) 3000 [] Tryz.f3 [fz xs] h0 (fun v _ => Q v) =
    drK xs 0 5 1 (lwD xs (fun d L => lwP L (lwR xs false false d (Q (.bool true)) (Q (.bool false))) (Q (.bool false))) 1 1 []) := by kernel_rfl
set_option maxRecDepth 100000 in
theorem lw1_ft (xs : Array Value) (Q : Value → Prop) : tfn Tryz.prog (SLw 1 false true) [] (LP 1 false true) 3000 [] Tryz.f3 [fz xs] h0 (fun v _ => Q v) =
    drK xs 0 5 1 (lwD xs (fun d L => lwP L (lwR xs false true d (Q (.bool true)) (Q (.bool false))) (Q (.bool false))) 1 1 []) := by kernel_rfl
set_option maxRecDepth 100000 in
theorem lw2_tt (xs : Array Value) (Q : Value → Prop) : tfn Tryz.prog (SLw 2 true true) [] (LP 2 true true) 3000 [] Tryz.f3 [fz xs] h0 (fun v _ => Q v) =
    drK xs 0 5 2 (lwD xs (fun d L => lwP L (lwR xs true true d (Q (.bool true)) (Q (.bool false))) (Q (.bool false))) 2 1 []) := by kernel_rfl
set_option maxRecDepth 100000 in
theorem lw2_ff (xs : Array Value) (Q : Value → Prop) : tfn Tryz.prog (SLw 2 false false) [] (LP 2 false false) 3000 [] Tryz.f3 [fz xs] h0 (fun v _ => Q v) =
    drK xs 0 5 2 (lwD xs (fun d L => lwP L (lwR xs false false d (Q (.bool true)) (Q (.bool false))) (Q (.bool false))) 2 1 []) := by kernel_rfl
set_option maxRecDepth 100000 in
theorem lw2_ft (xs : Array Value) (Q : Value → Prop) : tfn Tryz.prog (SLw 2 false true) [] (LP 2 false true) 3000 [] Tryz.f3 [fz xs] h0 (fun v _ => Q v) =
    drK xs 0 5 2 (lwD xs (fun d L => lwP L (lwR xs false true d (Q (.bool true)) (Q (.bool false))) (Q (.bool false))) 2 1 []) := by kernel_rfl
set_option maxRecDepth 100000 in
theorem lw3_tt (xs : Array Value) (Q : Value → Prop) : tfn Tryz.prog (SLw 3 true true) [] (LP 3 true true) 3000 [] Tryz.f3 [fz xs] h0 (fun v _ => Q v) =
    drK xs 0 5 3 (lwD xs (fun d L => lwP L (lwR xs true true d (Q (.bool true)) (Q (.bool false))) (Q (.bool false))) 3 1 []) := by kernel_rfl
set_option maxRecDepth 100000 in
theorem lw3_ff (xs : Array Value) (Q : Value → Prop) : tfn Tryz.prog (SLw 3 false false) [] (LP 3 false false) 3000 [] Tryz.f3 [fz xs] h0 (fun v _ => Q v) =
    drK xs 0 5 3 (lwD xs (fun d L => lwP L (lwR xs false false d (Q (.bool true)) (Q (.bool false))) (Q (.bool false))) 3 1 []) := by kernel_rfl
set_option maxRecDepth 100000 in
theorem lw3_ft (xs : Array Value) (Q : Value → Prop) : tfn Tryz.prog (SLw 3 false true) [] (LP 3 false true) 3000 [] Tryz.f3 [fz xs] h0 (fun v _ => Q v) =
    drK xs 0 5 3 (lwD xs (fun d L => lwP L (lwR xs false true d (Q (.bool true)) (Q (.bool false))) (Q (.bool false))) 3 1 []) := by kernel_rfl
set_option maxRecDepth 100000 in
theorem lw4_tt (xs : Array Value) (Q : Value → Prop) : tfn Tryz.prog (SLw 4 true true) [] (LP 4 true true) 3000 [] Tryz.f3 [fz xs] h0 (fun v _ => Q v) =
    drK xs 0 5 4 (lwD xs (fun d L => lwP L (lwR xs true true d (Q (.bool true)) (Q (.bool false))) (Q (.bool false))) 4 1 []) := by kernel_rfl
set_option maxRecDepth 100000 in
theorem lw4_ff (xs : Array Value) (Q : Value → Prop) : tfn Tryz.prog (SLw 4 false false) [] (LP 4 false false) 3000 [] Tryz.f3 [fz xs] h0 (fun v _ => Q v) =
    drK xs 0 5 4 (lwD xs (fun d L => lwP L (lwR xs false false d (Q (.bool true)) (Q (.bool false))) (Q (.bool false))) 4 1 []) := by kernel_rfl
set_option maxRecDepth 100000 in
theorem lw4_ft (xs : Array Value) (Q : Value → Prop) : tfn Tryz.prog (SLw 4 false true) [] (LP 4 false true) 3000 [] Tryz.f3 [fz xs] h0 (fun v _ => Q v) =
    drK xs 0 5 4 (lwD xs (fun d L => lwP L (lwR xs false true d (Q (.bool true)) (Q (.bool false))) (Q (.bool false))) 4 1 []) := by kernel_rfl
theorem someLW : Tryz.f3.body.isSome = true := by kernel_rfl
theorem one4 : (loopAt (codeOf Tryz.f3) 4).length = 1 := by kernel_rfl
end Go.Proofs.YtnaeehnkabojdaaGreatDoor
