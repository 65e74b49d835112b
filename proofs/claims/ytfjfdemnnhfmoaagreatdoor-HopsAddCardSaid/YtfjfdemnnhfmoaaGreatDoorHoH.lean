/-
  Headers: Forward.
-/
import Derived.Test.YtfjfdemnnhfmoaaGreatDoorHoG
import Derived.Test.YtfjfdemnnhfmoaaGreatDoorCont
namespace Go.Proofs.YtfjfdemnnhfmoaaGreatDoor
open Go.Ev Go.RowKit RecLaw PathLaw HopLaw

noncomputable def SFw : SC := ⟨idn, spOr spCr (spOr spTok (spOr spVal (spOr spPt (spOr spCont (spOr spClH (spOr spHn (spOr spCc (spOr spJd (spOr spSet spCf))))))))), true, false⟩
theorem SFw_ok : SFw.cfg.OK Tryz.prog := (spCr_ok.or (spTok_ok.or (spVal_ok.or (spPt_ok.or (spCont_ok.or (spClH_ok.or (spHn_ok.or (spCc_ok.or (spJd_ok.or (spSet_ok.or spCf_ok)))))))))).cfg
def rqC (a : Int) (m ho p q f bd : ByteArray) (x : Value) : List Value := [.int .i64 a, .string m, .string ho, .string p, .string q, .string f, x, .string bd]
def zR : List Value := rqC 0 ⟨#[]⟩ ⟨#[]⟩ ⟨#[]⟩ ⟨#[]⟩ ⟨#[]⟩ ⟨#[]⟩ (.slice none 0 0)
def hX (l : List (ByteArray × ByteArray)) : List Value := List.map hv l
def eR (e : Int) : Value := .tuple ⟨[.agg ⟨zR⟩, .int .i64 e]⟩
def viaB : ByteArray := ⟨#[118, 105, 97]⟩
def conB : ByteArray := ⟨#[99, 111, 110, 110, 101, 99, 116, 105, 111, 110]⟩
def xffB : ByteArray := ⟨#[120, 45, 102, 111, 114, 119, 97, 114, 100, 101, 100, 45, 102, 111, 114]⟩
def xfhB : ByteArray := ⟨#[120, 45, 102, 111, 114, 119, 97, 114, 100, 101, 100, 45, 104, 111, 115, 116]⟩
noncomputable def vsL (k : ByteArray) (l : List (ByteArray × ByteArray)) : List Value := List.map Value.string (valuesL k (hlist (hX l)))
noncomputable def okV (k : ByteArray) (l : List (ByteArray × ByteArray)) : Bool := (hX l).all shpH && (hlist (hX l)).all okN && Nat.ble (hX l).length 50 && inU asksU k
noncomputable def ptL (k : ByteArray) (l : List (ByteArray × ByteArray)) : List Value := List.map strV (partsB (blS (vsL k l)))
noncomputable def jnS (vs : List Value) (s : ByteArray) : ByteArray := bl (joinB (blS vs ++ [s.data.toList]))
noncomputable def seH (k x : ByteArray) (l : List (ByteArray × ByteArray)) : List (ByteArray × ByteArray) := setL k x (hlist (hX l))
noncomputable def fwE (l5 : List (ByteArray × ByteArray)) (Q : Value → Prop) (R : List (ByteArray × ByteArray) → Prop) : Prop :=
  bif decide (((Array.mk (hX l5)).size : Int) > 50) then Q (eR 2) else bif (hX l5).all shpH && Nat.ble (hX l5).length 7 then bif (bif false then true else bigV (hlist (hX l5))) then Q (eR 2) else R l5 else False
noncomputable def fwD (by_ : ByteArray) (l4 : List (ByteArray × ByteArray)) (Q : Value → Prop) (R : List (ByteArray × ByteArray) → Prop) : Prop :=
  bif okV viaB l4 then bif okJd (vsL viaB l4) by_ then bif okV viaB l4 then fwE (seH viaB (jnS (vsL viaB l4) by_) l4) Q R else False else False else False
noncomputable def fwC (by_ ho : ByteArray) (l3 : List (ByteArray × ByteArray)) (Q : Value → Prop) (R : List (ByteArray × ByteArray) → Prop) : Prop :=
  bif okV xfhB l3 then bif ((Array.mk (vsL xfhB l3)).size : Int) == 0 then bif okV xfhB l3 then fwD by_ (seH xfhB ho l3) Q R else False else fwD by_ l3 Q R else False
noncomputable def fwB (by_ ho f : ByteArray) (l2 : List (ByteArray × ByteArray)) (Q : Value → Prop) (R : List (ByteArray × ByteArray) → Prop) : Prop :=
  bif okV xffB l2 then bif okJd (vsL xffB l2) f then bif !((jnS (vsL xffB l2) f).toList == (ByteArray.mk #[]).toList) then bif okV xffB l2 then fwC by_ ho (seH xffB (jnS (vsL xffB l2) f) l2) Q R else False else fwC by_ ho l2 Q R else False else False
theorem fw_eq (a : Int) (m ho p q f bd by_ : ByteArray) (l l2 : List (ByteArray × ByteArray)) (C : List Value → AH → Prop) (Q : Value → Prop) :
    tfn Tryz.prog SFw [] (hook1 13 (hookLS 0 88 [1, 2, 4, 8, 43, 44, 45] [0, 1] [1, 2, 4, 8] (fun vals h K => C vals h ∧ K (.exit 0) [.string by_, .pointer (some ⟨0, 0, none⟩), .pointer (some ⟨1, 0, none⟩), fz ⟨hX l2⟩] (fwH (rqC a m ho p q f bd (fz ⟨hX l⟩)) zR)))) 3000 [] Tryz.f18 [rqV a m ho p q f l bd, .string by_] h0 (fun v _ => Q v) =
      bif (hX l).all shpH && okRq a m ho p q f bd (hlist (hX l)) then bif inU namesU by_ then bif okV viaB l then bif okPt (vsL viaB l) then
        bif (ptL viaB l).all isStr && Nat.ble (ptL viaB l).length 4000 then bif hasS (ptL viaB l) by_ then Q (eR 14) else bif decide (((Array.mk (ptL viaB l)).size : Int) ≥ 20) then Q (eR 2)
        else bif (hX l).all shpH && Nat.ble (hX l).length 4 then bif okV conB l then bif okPt (vsL conB l) then bif Nat.beq 30 30 && okCc (List.map strV hopsB) (ptL conB l) then
          NoNames (.cells ⟨rqC a m ho p q f bd (fz ⟨hX l⟩)⟩ 41 (0, 0)) ∧ NoNames (.cells ⟨zR⟩ 41 (0, 0)) ∧
          C [.string by_, .pointer (some ⟨0, 0, none⟩), .pointer (some ⟨1, 0, none⟩), fz ⟨hX l⟩, fz ⟨List.map strV hopsB ++ ptL conB l⟩, .int .i64 ((Array.mk (List.map strV hopsB ++ ptL conB l)).size : Int), .int .i64 0] (fwH (rqC a m ho p q f bd (fz ⟨hX l⟩)) zR) ∧
          fwB by_ ho f l2 Q (fun l5 => Q (.tuple ⟨[.agg ⟨rqC a m ho p q f bd (fz ⟨hX l5⟩)⟩, .int .i64 0]⟩))
        else False else False else False else False else False else False else False else False else False := by kernel_rfl
end Go.Proofs.YtfjfdemnnhfmoaaGreatDoor
