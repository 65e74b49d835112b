/-
  Headers: Client.
-/
import Derived.Test.YtfjfdemnnhfmoaaGreatDoorHoM
namespace Go.Proofs.YtfjfdemnnhfmoaaGreatDoor
open Go.Ev Go.RowKit RecLaw PathLaw HopLaw

noncomputable def SCl (e : Bool) : SC := ⟨idn, spOr spCr (spOr spFld (spOr spVal (spPtX e))), false, true⟩
theorem SCl_ok (e : Bool) : (SCl e).cfg.OK Tryz.prog := (spCr_ok.or (spFld_ok.or (spVal_ok.or (spPtX_ok e)))).cfg
def clA : Value := .slice (some ⟨0, 0, none⟩) 1 1
def clB : Obj := .cells ⟨[.string lastB]⟩ 9 (0, 0)
def clO : Option Obj := some clB
def clG : AH := ⟨1, 1, [(0, clB)]⟩
noncomputable def clE (n : Nat) (x0 : ByteArray) (Q : Value → Option Obj → Prop) : Prop :=
  bif (n : Int) == 0 then Q (.tuple ⟨[.string ⟨#[]⟩, .int .i64 0]⟩) clO else bif decide ((0 : Int) ≤ 0) && decide ((0 : Int) < (n : Int)) then Q (.tuple ⟨[.string x0, .int .i64 0]⟩) clO else False
theorem clF (a : Int) (m ho p q bd : ByteArray) (l : List (ByteArray × ByteArray)) (n : Nat) (cs : List Value) (x0 : ByteArray) (C : List Value → AH → Prop) (B : Prop) (R : ByteArray → Prop) (Q : Value → Option Obj → Prop) : tfn Tryz.prog (SCl false) [] (range1 12 (hookLS 1 47 clL [4] clL (fun vals h K => C vals h ∧ (B → K .normal (clV n) (clH ⟨#[]⟩ n (.string x0 :: cs))) ∧ ∀ s, R s → K .ret (clV n) (clR s n (.string x0 :: cs))))) 3000 [] Tryz.f19 [rqV a m ho p q lastB l bd, clA] clG (fun v h => Q v (h.get 0)) =
    bif (hX l).all shpH && okRq a m ho p q lastB bd (hlist (hX l)) then bif okV xffB l then bif okPt (vsL xffB l) && !(ptS (vsL xffB l)).isEmpty then
      apS (List.map strV (ptS (vsL xffB l))) (ptS (vsL xffB l)).length (.string lastB) fun c2 k2 => NoNames (.cells ⟨c2⟩ 9 (0, 0)) ∧ C (clV k2) (clH ⟨#[]⟩ k2 c2) ∧ (B → clE n x0 Q) ∧ ∀ s, R s → Q (.tuple ⟨[.string s, .int .i64 0]⟩) clO
    else False else False else False := by kernel_rfl
theorem clN (a : Int) (m ho p q bd : ByteArray) (l : List (ByteArray × ByteArray)) (n : Nat) (cs : List Value) (x0 : ByteArray) (C : List Value → AH → Prop) (B : Prop) (R : ByteArray → Prop) (Q : Value → Option Obj → Prop) : tfn Tryz.prog (SCl true) [] (range1 12 (hookLS 1 47 clL [4] clL (fun vals h K => C vals h ∧ (B → K .normal (clV n) (clH ⟨#[]⟩ n (.string x0 :: cs))) ∧ ∀ s, R s → K .ret (clV n) (clR s n (.string x0 :: cs))))) 3000 [] Tryz.f19 [rqV a m ho p q lastB l bd, clA] clG (fun v h => Q v (h.get 0)) =
    bif (hX l).all shpH && okRq a m ho p q lastB bd (hlist (hX l)) then bif okV xffB l then bif okPt (vsL xffB l) && (ptS (vsL xffB l)).isEmpty then
      NoNames (.cells ⟨[.string lastB]⟩ 9 (0, 0)) ∧ C (clV 1) (clH ⟨#[]⟩ 1 [.string lastB]) ∧ (B → clE n x0 Q) ∧ ∀ s, R s → Q (.tuple ⟨[.string s, .int .i64 0]⟩) clO
    else False else False else False := by kernel_rfl
end Go.Proofs.YtfjfdemnnhfmoaaGreatDoor
