/-
  Templates: TemplateText.
-/
import Derived.Test.YtklcapmmogediaaGreatDoorTpB
namespace Go.Proofs.YtklcapmmogediaaGreatDoor
open Go.Ev Go.RowKit TplLaw

noncomputable def SC1 : SC := ⟨idn, spOr spPf spSg, true, true⟩
theorem SC1_ok : SC1.cfg.OK Tryz.prog := (spPf_ok.or spSg_ok).cfg
def byV (b : UInt8) : Value := .int .u8 (b.toNat : Int)
noncomputable def wr0 (s : ByteArray) (K : List Value → Nat → Prop) : Prop :=
  bif Nat.ble (0 + s.size) 0 then False else bif Nat.ble (0 + s.size) 9223372036854775807 && Nat.ble ((0 + s.size) * 1) 140737488355328 then K (s.data.toList.map byV) s.size else False
noncomputable def wrT (cs : List Value) (k : Nat) (s : ByteArray) (K : List Value → Nat → Prop) : Prop :=
  bif Nat.ble (k + s.size) k then False else bif Nat.ble (k + s.size) 9223372036854775807 && Nat.ble ((k + s.size) * 1) 140737488355328 then
    bif Nat.ble (0 + k * 1) (Array.mk cs).size && true && (s.data.toList.map byV).all oneCell then K (List.take (k * 1) (List.drop 0 (Array.mk cs).toList) ++ s.data.toList.map byV) (k + s.size) else False else False
noncomputable def enT (cs : List Value) (k : Nat) (Q : Value → Prop) : Prop :=
  bif decide ((k : Int) > 1000) then Q (.tuple ⟨[.string ⟨#[]⟩, .int .i64 3]⟩) else
    bif Nat.ble 1 k then bif decide (0 < (k : Int)) && decide ((k : Int) ≤ 9223372036854775807) && true && true && true && (0 + (k : Int).toNat).ble (Array.mk cs).size && (List.take (k : Int).toNat (List.drop 0 (Array.mk cs).toList)).all isByte then
      Q (.tuple ⟨[.string ⟨⟨List.map toByte (List.take (k : Int).toNat (List.drop 0 (Array.mk cs).toList))⟩⟩, .int .i64 0]⟩) else False else False
noncomputable def pcT (k : Int) (s : ByteArray) (K : ByteArray → Prop) : Prop :=
  bif k == 1 then bif okN s then bif Nat.ble (1 + (sgB s).size) 1000000 then K (⟨#[47]⟩ ++ sgB s) else False else False else
  bif k == 2 then bif Nat.ble (2 + s.size) 1000000 then bif Nat.ble ((⟨#[47, 123]⟩ ++ s : ByteArray).size + 1) 1000000 then K (⟨#[47, 123]⟩ ++ s ++ ⟨#[125]⟩) else False else False else
    bif Nat.ble (2 + s.size) 1000000 then bif Nat.ble ((⟨#[47, 123]⟩ ++ s : ByteArray).size + 2) 1000000 then K (⟨#[47, 123]⟩ ++ s ++ ⟨#[42, 125]⟩) else False else False
noncomputable def stT (vs : List Value) (i : Int) (k : Int) (s : ByteArray) (Q : Value → Prop) (K : ByteArray → Prop) : Prop :=
  pv k s = pv k s ∧ bif okV vs && decide (0 ≤ i) && decide (i < (vs.length : Int)) then bif pfV vs i != 0 then Q (.tuple ⟨[.string ⟨#[]⟩, .int .i64 (pfV vs i)]⟩) else pcT k s K else False
theorem someTT : Tryz.f4.body.isSome = true := by kernel_rfl
noncomputable def tx1 (k0 : Int) (s0 : ByteArray) (Q : Value → Prop) : Prop := stT [pv k0 s0] 0 k0 s0 Q (fun s => wr0 s fun cs k => enT cs k Q)
theorem tt1 (k0 : Int) (s0 : ByteArray) (Q : Value → Prop) : ffn Tryz.prog SC1 [] 3000 [] Tryz.f4 [(fz ⟨[pv k0 s0]⟩)] h0 (fun v _ => Q v) = tx1 k0 s0 Q := by kernel_rfl
noncomputable def tx2 (k0 : Int) (s0 : ByteArray) (k1 : Int) (s1 : ByteArray) (Q : Value → Prop) : Prop := stT [pv k0 s0, pv k1 s1] 0 k0 s0 Q (fun s => wr0 s fun cs k => stT [pv k0 s0, pv k1 s1] 1 k1 s1 Q (fun s => wrT cs k s fun cs k => enT cs k Q))
theorem tt2 (k0 : Int) (s0 : ByteArray) (k1 : Int) (s1 : ByteArray) (Q : Value → Prop) : ffn Tryz.prog SC1 [] 3000 [] Tryz.f4 [(fz ⟨[pv k0 s0, pv k1 s1]⟩)] h0 (fun v _ => Q v) = tx2 k0 s0 k1 s1 Q := by kernel_rfl
noncomputable def tx3 (k0 : Int) (s0 : ByteArray) (k1 : Int) (s1 : ByteArray) (k2 : Int) (s2 : ByteArray) (Q : Value → Prop) : Prop := stT [pv k0 s0, pv k1 s1, pv k2 s2] 0 k0 s0 Q (fun s => wr0 s fun cs k => stT [pv k0 s0, pv k1 s1, pv k2 s2] 1 k1 s1 Q (fun s => wrT cs k s fun cs k => stT [pv k0 s0, pv k1 s1, pv k2 s2] 2 k2 s2 Q (fun s => wrT cs k s fun cs k => enT cs k Q)))
theorem tt3 (k0 : Int) (s0 : ByteArray) (k1 : Int) (s1 : ByteArray) (k2 : Int) (s2 : ByteArray) (Q : Value → Prop) : ffn Tryz.prog SC1 [] 3000 [] Tryz.f4 [(fz ⟨[pv k0 s0, pv k1 s1, pv k2 s2]⟩)] h0 (fun v _ => Q v) = tx3 k0 s0 k1 s1 k2 s2 Q := by kernel_rfl
end Go.Proofs.YtklcapmmogediaaGreatDoor
