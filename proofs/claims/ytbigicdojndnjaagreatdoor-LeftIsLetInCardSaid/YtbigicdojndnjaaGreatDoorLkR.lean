/-
  Limits: two meters, ask by ask.
-/
import Derived.Test.YtbigicdojndnjaaGreatDoorLkA
namespace Go.Proofs.YtbigicdojndnjaaGreatDoor
open Go.Ev Go.RowKit LimLaw

noncomputable def SLk : SC := ⟨idn, spOr spAf (spOr spPm (spOr spPt (spOr spPs (spOr spPi (spOr spPn (spOr sp_mW (spOr sp_wW (spOr sp_aW (spOr sp_mB (spOr sp_wB sp_aB)))))))))), true, true⟩
theorem SLk_ok : SLk.cfg.OK Tryz.prog := (spAf_ok.or (spPm_ok.or (spPt_ok.or (spPs_ok.or (spPi_ok.or (spPn_ok.or (sp_mW_ok.or (sp_wW_ok.or (sp_aW_ok.or (sp_mB_ok.or (sp_wB_ok.or sp_aB_ok))))))))))).cfg
def vW2 (m p b x y t co : Int) (ok : Int → Int → Prop) (no : Int → Prop) : Prop :=
  bif true && !decide (p = 0) then bif decide (co ≤ moW m p x y t) then bif true && !decide (p = 0) && true then ok (IntKind.i64.wrap (t.tdiv p)) (nW p x y t co) else False
    else bif decide (co ≤ m) then bif true && !decide (p = 0) then no (waW p t) else False else no (-1) else False
def vB2 (m p b x y t co : Int) (ok : Int → Int → Prop) (no : Int → Prop) : Prop :=
  bif true && (!decide (p = 0) && !decide (m = 0)) then bif decide (co ≤ moB m p b x y t) then bif true && (!decide (p = 0) && !decide (m = 0)) && true then ok t (lvB m p b x y t co) else False
    else bif decide (co ≤ b) then bif true && (!decide (p = 0) && !decide (m = 0)) then no (waB m p b x y t co) else False else no (-1) else False
def bV (at_ : Int) (ys : List Value) (n i : Int) : List Value := [.pointer (some ⟨0, 0, none⟩), .pointer (some ⟨1, 0, none⟩), .pointer (some ⟨2, 0, none⟩), .int .i64 at_, fz ⟨ys⟩, .int .i64 n, .int .i64 i]
def rV (at_ : Int) : List Value := [.bool false, .pointer (some ⟨0, 0, none⟩), .pointer (some ⟨1, 0, none⟩), .pointer (some ⟨2, 0, none⟩), .int .i64 at_]
def xV (at_ : Int) : List Value := [anyV, .pointer (some ⟨0, 0, none⟩), .pointer (some ⟨1, 0, none⟩), .pointer (some ⟨2, 0, none⟩), .int .i64 at_]
def nP (l : List Value) (X : Prop) : Prop := NoNames (.cells ⟨l⟩ 347 (1, 1)) ∧ X
def v0 (m c : Int) (ok : Prop) (no : Int → Prop) : Prop := bif decide (c ≤ IntKind.i64.wrap (m - 0)) then ok else bif decide (c ≤ m) then no 0 else no (-1)
noncomputable def vR (m p l : Int) (k : Nat) (ps : List Value) (t c : Int) (ok : Nat → List Value → Prop) (no : Int → Prop) : Prop :=
  bif Nat.beq k k && okC k ps && Nat.ble k 1000 then bif decide (c ≤ IntKind.i64.wrap (m - sumP t 0 (rdL k ps))) then
    bif Nat.beq k k && okC k ps && Nat.ble k 1000 && true then (bif Nat.beq (kpL t k ps).length (kpL t k ps).length && okC (kpL t k ps).length ((kpL t k ps).flatMap pcC) && Nat.ble (kpL t k ps).length 1000 && true then ok ((kpL t k ps).length + 1) ((wiL (IntKind.i64.wrap (t + p)) c (rdL (kpL t k ps).length ((kpL t k ps).flatMap pcC))).flatMap pcC) else False) else False
  else bif decide (c ≤ m) then bif Nat.beq k k && okC k ps && Nat.ble k 1000 then no (waitP t (IntKind.i64.wrap (m - c)) (sumP t 0 (rdL k ps)) (rdL k ps)) else False else no (-1) else False
noncomputable def vL (m p l : Int) (k : Nat) (ps : List Value) (t c : Int) (ok : Nat → List Value → Prop) (no : Int → Prop) : Prop :=
  bif Nat.beq k k && okC k ps && Nat.ble k 1000 then bif decide (c ≤ IntKind.i64.wrap (m - sumP t 0 (rdL k ps))) then
    bif Nat.beq k k && okC k ps && Nat.ble k 1000 && true then (bif decide (l > 0) then (bif Nat.beq (kpL t k ps).length (kpL t k ps).length && okC (kpL t k ps).length ((kpL t k ps).flatMap pcC) && Nat.ble (kpL t k ps).length 1000 && true then ok ((kpL t k ps).length + 1) ((wiL (IntKind.i64.wrap (t + l)) c (rdL (kpL t k ps).length ((kpL t k ps).flatMap pcC))).flatMap pcC) else False) else ok (kpL t k ps).length ((kpL t k ps).flatMap pcC)) else False
  else bif decide (c ≤ m) then bif Nat.beq k k && okC k ps && Nat.ble k 1000 then no (waitP t (IntKind.i64.wrap (m - c)) (sumP t 0 (rdL k ps)) (rdL k ps)) else False else no (-1) else False
end Go.Proofs.YtbigicdojndnjaaGreatDoor
