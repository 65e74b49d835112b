/-
  Names and values of headers, as they are drawn: which are tokens, which are fields, which names are the same.
-/
import Derived.Test.YthhdmehakpjhgaaGreatDoorBase
namespace Go.Proofs.YthhdmehakpjhgaaGreatDoor
open Go.Ev Go.RowKit

def lowN (n : Nat) : Nat := cond (Nat.ble 65 n && Nat.ble n 90) (n + 32) n
/-- Whether two names are the same but for great and small letters. -/
def named (a b : ByteArray) : Bool := beqN ((natsOf a).map lowN) ((natsOf b).map lowN)
def SP : SC := ⟨idn, fun _ _ _ => none, false, false⟩
theorem SP_ok : SP.cfg.OK Tryz.prog := none_ok.cfg
def namesU : List ByteArray := [⟨#[97, 99, 99, 101, 112, 116]⟩, ⟨#[65, 99, 99, 101, 112, 116]⟩, ⟨#[120, 45, 111, 110, 101]⟩, ⟨#[88, 45, 84, 119, 111]⟩, ⟨#[99, 111, 111, 107, 105, 101]⟩, ⟨#[118, 97, 114, 121]⟩, ⟨#[99, 111, 110, 110, 101, 99, 116, 105, 111, 110]⟩, ⟨#[120, 45, 102, 111, 114, 119, 97, 114, 100, 101, 100, 45, 102, 111, 114]⟩, ⟨#[118, 105, 97]⟩, ⟨#[120, 45, 102, 111, 114, 119, 97, 114, 100, 101, 100, 45, 104, 111, 115, 116]⟩, ⟨#[116, 101]⟩, ⟨#[88, 45, 79, 110, 101]⟩, ⟨#[110, 101, 119]⟩]
def asksU : List ByteArray := [⟨#[97, 99, 99, 101, 112, 116]⟩, ⟨#[88, 45, 79, 110, 101]⟩, ⟨#[110, 101, 119]⟩]
def valsU : List ByteArray := [⟨#[49]⟩, ⟨#[120]⟩, ⟨#[97, 44, 32, 98]⟩, ⟨#[]⟩, ⟨#[120, 45, 111, 110, 101, 44, 32, 99, 108, 111, 115, 101]⟩, ⟨#[103, 119]⟩, ⟨#[49, 46, 50, 46, 51, 46, 52]⟩, ⟨#[53, 46, 54, 46, 55, 46, 56, 44, 32, 57, 46, 57, 46, 57, 46, 57]⟩, ⟨#[122]⟩]
theorem some89 : Tryz.f89.body.isSome = true := by kernel_rfl
theorem some50 : Tryz.f50.body.isSome = true := by kernel_rfl
theorem some92 : Tryz.f92.body.isSome = true := by kernel_rfl
theorem tok0 : ffn Tryz.prog SP [] 1000 [] Tryz.f89 [.string ⟨#[97, 99, 99, 101, 112, 116]⟩] h0 (fun v _ => v = .bool true) = (Value.bool true = .bool true) := by kernel_rfl
theorem tok1 : ffn Tryz.prog SP [] 1000 [] Tryz.f89 [.string ⟨#[65, 99, 99, 101, 112, 116]⟩] h0 (fun v _ => v = .bool true) = (Value.bool true = .bool true) := by kernel_rfl
theorem tok2 : ffn Tryz.prog SP [] 1000 [] Tryz.f89 [.string ⟨#[120, 45, 111, 110, 101]⟩] h0 (fun v _ => v = .bool true) = (Value.bool true = .bool true) := by kernel_rfl
theorem tok3 : ffn Tryz.prog SP [] 1000 [] Tryz.f89 [.string ⟨#[88, 45, 84, 119, 111]⟩] h0 (fun v _ => v = .bool true) = (Value.bool true = .bool true) := by kernel_rfl
theorem tok4 : ffn Tryz.prog SP [] 1000 [] Tryz.f89 [.string ⟨#[99, 111, 111, 107, 105, 101]⟩] h0 (fun v _ => v = .bool true) = (Value.bool true = .bool true) := by kernel_rfl
theorem tok5 : ffn Tryz.prog SP [] 1000 [] Tryz.f89 [.string ⟨#[118, 97, 114, 121]⟩] h0 (fun v _ => v = .bool true) = (Value.bool true = .bool true) := by kernel_rfl
theorem tok6 : ffn Tryz.prog SP [] 1000 [] Tryz.f89 [.string ⟨#[99, 111, 110, 110, 101, 99, 116, 105, 111, 110]⟩] h0 (fun v _ => v = .bool true) = (Value.bool true = .bool true) := by kernel_rfl
theorem tok7 : ffn Tryz.prog SP [] 1000 [] Tryz.f89 [.string ⟨#[120, 45, 102, 111, 114, 119, 97, 114, 100, 101, 100, 45, 102, 111, 114]⟩] h0 (fun v _ => v = .bool true) = (Value.bool true = .bool true) := by kernel_rfl
theorem tok8 : ffn Tryz.prog SP [] 1000 [] Tryz.f89 [.string ⟨#[118, 105, 97]⟩] h0 (fun v _ => v = .bool true) = (Value.bool true = .bool true) := by kernel_rfl
theorem tok9 : ffn Tryz.prog SP [] 1000 [] Tryz.f89 [.string ⟨#[120, 45, 102, 111, 114, 119, 97, 114, 100, 101, 100, 45, 104, 111, 115, 116]⟩] h0 (fun v _ => v = .bool true) = (Value.bool true = .bool true) := by kernel_rfl
theorem tok10 : ffn Tryz.prog SP [] 1000 [] Tryz.f89 [.string ⟨#[116, 101]⟩] h0 (fun v _ => v = .bool true) = (Value.bool true = .bool true) := by kernel_rfl
theorem tok11 : ffn Tryz.prog SP [] 1000 [] Tryz.f89 [.string ⟨#[88, 45, 79, 110, 101]⟩] h0 (fun v _ => v = .bool true) = (Value.bool true = .bool true) := by kernel_rfl
theorem tok12 : ffn Tryz.prog SP [] 1000 [] Tryz.f89 [.string ⟨#[110, 101, 119]⟩] h0 (fun v _ => v = .bool true) = (Value.bool true = .bool true) := by kernel_rfl
theorem fld0 : ffn Tryz.prog SP [] 1000 [] Tryz.f50 [.string ⟨#[49]⟩] h0 (fun v _ => v = .bool true) = (Value.bool true = .bool true) := by kernel_rfl
theorem fld1 : ffn Tryz.prog SP [] 1000 [] Tryz.f50 [.string ⟨#[120]⟩] h0 (fun v _ => v = .bool true) = (Value.bool true = .bool true) := by kernel_rfl
theorem fld2 : ffn Tryz.prog SP [] 1000 [] Tryz.f50 [.string ⟨#[97, 44, 32, 98]⟩] h0 (fun v _ => v = .bool true) = (Value.bool true = .bool true) := by kernel_rfl
theorem fld3 : ffn Tryz.prog SP [] 1000 [] Tryz.f50 [.string ⟨#[]⟩] h0 (fun v _ => v = .bool true) = (Value.bool true = .bool true) := by kernel_rfl
theorem fld4 : ffn Tryz.prog SP [] 1000 [] Tryz.f50 [.string ⟨#[120, 45, 111, 110, 101, 44, 32, 99, 108, 111, 115, 101]⟩] h0 (fun v _ => v = .bool true) = (Value.bool true = .bool true) := by kernel_rfl
theorem fld5 : ffn Tryz.prog SP [] 1000 [] Tryz.f50 [.string ⟨#[103, 119]⟩] h0 (fun v _ => v = .bool true) = (Value.bool true = .bool true) := by kernel_rfl
theorem fld6 : ffn Tryz.prog SP [] 1000 [] Tryz.f50 [.string ⟨#[49, 46, 50, 46, 51, 46, 52]⟩] h0 (fun v _ => v = .bool true) = (Value.bool true = .bool true) := by kernel_rfl
theorem fld7 : ffn Tryz.prog SP [] 1000 [] Tryz.f50 [.string ⟨#[53, 46, 54, 46, 55, 46, 56, 44, 32, 57, 46, 57, 46, 57, 46, 57]⟩] h0 (fun v _ => v = .bool true) = (Value.bool true = .bool true) := by kernel_rfl
theorem fld8 : ffn Tryz.prog SP [] 1000 [] Tryz.f50 [.string ⟨#[122]⟩] h0 (fun v _ => v = .bool true) = (Value.bool true = .bool true) := by kernel_rfl
theorem nmd0_0 (x : ByteArray) : ffn Tryz.prog SP [] 1000 [] Tryz.f92 [.agg ⟨[.string ⟨#[97, 99, 99, 101, 112, 116]⟩, .string x]⟩, .string ⟨#[97, 99, 99, 101, 112, 116]⟩] h0 (fun v _ => v = .bool true) = (Value.bool true = .bool true) := by kernel_rfl
theorem nmd0_1 (x : ByteArray) : ffn Tryz.prog SP [] 1000 [] Tryz.f92 [.agg ⟨[.string ⟨#[97, 99, 99, 101, 112, 116]⟩, .string x]⟩, .string ⟨#[88, 45, 79, 110, 101]⟩] h0 (fun v _ => v = .bool false) = (Value.bool false = .bool false) := by kernel_rfl
theorem nmd0_2 (x : ByteArray) : ffn Tryz.prog SP [] 1000 [] Tryz.f92 [.agg ⟨[.string ⟨#[97, 99, 99, 101, 112, 116]⟩, .string x]⟩, .string ⟨#[110, 101, 119]⟩] h0 (fun v _ => v = .bool false) = (Value.bool false = .bool false) := by kernel_rfl
theorem nmd1_0 (x : ByteArray) : ffn Tryz.prog SP [] 1000 [] Tryz.f92 [.agg ⟨[.string ⟨#[65, 99, 99, 101, 112, 116]⟩, .string x]⟩, .string ⟨#[97, 99, 99, 101, 112, 116]⟩] h0 (fun v _ => v = .bool true) = (Value.bool true = .bool true) := by kernel_rfl
theorem nmd1_1 (x : ByteArray) : ffn Tryz.prog SP [] 1000 [] Tryz.f92 [.agg ⟨[.string ⟨#[65, 99, 99, 101, 112, 116]⟩, .string x]⟩, .string ⟨#[88, 45, 79, 110, 101]⟩] h0 (fun v _ => v = .bool false) = (Value.bool false = .bool false) := by kernel_rfl
theorem nmd1_2 (x : ByteArray) : ffn Tryz.prog SP [] 1000 [] Tryz.f92 [.agg ⟨[.string ⟨#[65, 99, 99, 101, 112, 116]⟩, .string x]⟩, .string ⟨#[110, 101, 119]⟩] h0 (fun v _ => v = .bool false) = (Value.bool false = .bool false) := by kernel_rfl
theorem nmd2_0 (x : ByteArray) : ffn Tryz.prog SP [] 1000 [] Tryz.f92 [.agg ⟨[.string ⟨#[120, 45, 111, 110, 101]⟩, .string x]⟩, .string ⟨#[97, 99, 99, 101, 112, 116]⟩] h0 (fun v _ => v = .bool false) = (Value.bool false = .bool false) := by kernel_rfl
theorem nmd2_1 (x : ByteArray) : ffn Tryz.prog SP [] 1000 [] Tryz.f92 [.agg ⟨[.string ⟨#[120, 45, 111, 110, 101]⟩, .string x]⟩, .string ⟨#[88, 45, 79, 110, 101]⟩] h0 (fun v _ => v = .bool true) = (Value.bool true = .bool true) := by kernel_rfl
theorem nmd2_2 (x : ByteArray) : ffn Tryz.prog SP [] 1000 [] Tryz.f92 [.agg ⟨[.string ⟨#[120, 45, 111, 110, 101]⟩, .string x]⟩, .string ⟨#[110, 101, 119]⟩] h0 (fun v _ => v = .bool false) = (Value.bool false = .bool false) := by kernel_rfl
theorem nmd3_0 (x : ByteArray) : ffn Tryz.prog SP [] 1000 [] Tryz.f92 [.agg ⟨[.string ⟨#[88, 45, 84, 119, 111]⟩, .string x]⟩, .string ⟨#[97, 99, 99, 101, 112, 116]⟩] h0 (fun v _ => v = .bool false) = (Value.bool false = .bool false) := by kernel_rfl
theorem nmd3_1 (x : ByteArray) : ffn Tryz.prog SP [] 1000 [] Tryz.f92 [.agg ⟨[.string ⟨#[88, 45, 84, 119, 111]⟩, .string x]⟩, .string ⟨#[88, 45, 79, 110, 101]⟩] h0 (fun v _ => v = .bool false) = (Value.bool false = .bool false) := by kernel_rfl
theorem nmd3_2 (x : ByteArray) : ffn Tryz.prog SP [] 1000 [] Tryz.f92 [.agg ⟨[.string ⟨#[88, 45, 84, 119, 111]⟩, .string x]⟩, .string ⟨#[110, 101, 119]⟩] h0 (fun v _ => v = .bool false) = (Value.bool false = .bool false) := by kernel_rfl
theorem nmd4_0 (x : ByteArray) : ffn Tryz.prog SP [] 1000 [] Tryz.f92 [.agg ⟨[.string ⟨#[99, 111, 111, 107, 105, 101]⟩, .string x]⟩, .string ⟨#[97, 99, 99, 101, 112, 116]⟩] h0 (fun v _ => v = .bool false) = (Value.bool false = .bool false) := by kernel_rfl
theorem nmd4_1 (x : ByteArray) : ffn Tryz.prog SP [] 1000 [] Tryz.f92 [.agg ⟨[.string ⟨#[99, 111, 111, 107, 105, 101]⟩, .string x]⟩, .string ⟨#[88, 45, 79, 110, 101]⟩] h0 (fun v _ => v = .bool false) = (Value.bool false = .bool false) := by kernel_rfl
theorem nmd4_2 (x : ByteArray) : ffn Tryz.prog SP [] 1000 [] Tryz.f92 [.agg ⟨[.string ⟨#[99, 111, 111, 107, 105, 101]⟩, .string x]⟩, .string ⟨#[110, 101, 119]⟩] h0 (fun v _ => v = .bool false) = (Value.bool false = .bool false) := by kernel_rfl
theorem nmd5_0 (x : ByteArray) : ffn Tryz.prog SP [] 1000 [] Tryz.f92 [.agg ⟨[.string ⟨#[118, 97, 114, 121]⟩, .string x]⟩, .string ⟨#[97, 99, 99, 101, 112, 116]⟩] h0 (fun v _ => v = .bool false) = (Value.bool false = .bool false) := by kernel_rfl
theorem nmd5_1 (x : ByteArray) : ffn Tryz.prog SP [] 1000 [] Tryz.f92 [.agg ⟨[.string ⟨#[118, 97, 114, 121]⟩, .string x]⟩, .string ⟨#[88, 45, 79, 110, 101]⟩] h0 (fun v _ => v = .bool false) = (Value.bool false = .bool false) := by kernel_rfl
theorem nmd5_2 (x : ByteArray) : ffn Tryz.prog SP [] 1000 [] Tryz.f92 [.agg ⟨[.string ⟨#[118, 97, 114, 121]⟩, .string x]⟩, .string ⟨#[110, 101, 119]⟩] h0 (fun v _ => v = .bool false) = (Value.bool false = .bool false) := by kernel_rfl
theorem nmd6_0 (x : ByteArray) : ffn Tryz.prog SP [] 1000 [] Tryz.f92 [.agg ⟨[.string ⟨#[99, 111, 110, 110, 101, 99, 116, 105, 111, 110]⟩, .string x]⟩, .string ⟨#[97, 99, 99, 101, 112, 116]⟩] h0 (fun v _ => v = .bool false) = (Value.bool false = .bool false) := by kernel_rfl
theorem nmd6_1 (x : ByteArray) : ffn Tryz.prog SP [] 1000 [] Tryz.f92 [.agg ⟨[.string ⟨#[99, 111, 110, 110, 101, 99, 116, 105, 111, 110]⟩, .string x]⟩, .string ⟨#[88, 45, 79, 110, 101]⟩] h0 (fun v _ => v = .bool false) = (Value.bool false = .bool false) := by kernel_rfl
theorem nmd6_2 (x : ByteArray) : ffn Tryz.prog SP [] 1000 [] Tryz.f92 [.agg ⟨[.string ⟨#[99, 111, 110, 110, 101, 99, 116, 105, 111, 110]⟩, .string x]⟩, .string ⟨#[110, 101, 119]⟩] h0 (fun v _ => v = .bool false) = (Value.bool false = .bool false) := by kernel_rfl
theorem nmd7_0 (x : ByteArray) : ffn Tryz.prog SP [] 1000 [] Tryz.f92 [.agg ⟨[.string ⟨#[120, 45, 102, 111, 114, 119, 97, 114, 100, 101, 100, 45, 102, 111, 114]⟩, .string x]⟩, .string ⟨#[97, 99, 99, 101, 112, 116]⟩] h0 (fun v _ => v = .bool false) = (Value.bool false = .bool false) := by kernel_rfl
theorem nmd7_1 (x : ByteArray) : ffn Tryz.prog SP [] 1000 [] Tryz.f92 [.agg ⟨[.string ⟨#[120, 45, 102, 111, 114, 119, 97, 114, 100, 101, 100, 45, 102, 111, 114]⟩, .string x]⟩, .string ⟨#[88, 45, 79, 110, 101]⟩] h0 (fun v _ => v = .bool false) = (Value.bool false = .bool false) := by kernel_rfl
theorem nmd7_2 (x : ByteArray) : ffn Tryz.prog SP [] 1000 [] Tryz.f92 [.agg ⟨[.string ⟨#[120, 45, 102, 111, 114, 119, 97, 114, 100, 101, 100, 45, 102, 111, 114]⟩, .string x]⟩, .string ⟨#[110, 101, 119]⟩] h0 (fun v _ => v = .bool false) = (Value.bool false = .bool false) := by kernel_rfl
theorem nmd8_0 (x : ByteArray) : ffn Tryz.prog SP [] 1000 [] Tryz.f92 [.agg ⟨[.string ⟨#[118, 105, 97]⟩, .string x]⟩, .string ⟨#[97, 99, 99, 101, 112, 116]⟩] h0 (fun v _ => v = .bool false) = (Value.bool false = .bool false) := by kernel_rfl
theorem nmd8_1 (x : ByteArray) : ffn Tryz.prog SP [] 1000 [] Tryz.f92 [.agg ⟨[.string ⟨#[118, 105, 97]⟩, .string x]⟩, .string ⟨#[88, 45, 79, 110, 101]⟩] h0 (fun v _ => v = .bool false) = (Value.bool false = .bool false) := by kernel_rfl
theorem nmd8_2 (x : ByteArray) : ffn Tryz.prog SP [] 1000 [] Tryz.f92 [.agg ⟨[.string ⟨#[118, 105, 97]⟩, .string x]⟩, .string ⟨#[110, 101, 119]⟩] h0 (fun v _ => v = .bool false) = (Value.bool false = .bool false) := by kernel_rfl
theorem nmd9_0 (x : ByteArray) : ffn Tryz.prog SP [] 1000 [] Tryz.f92 [.agg ⟨[.string ⟨#[120, 45, 102, 111, 114, 119, 97, 114, 100, 101, 100, 45, 104, 111, 115, 116]⟩, .string x]⟩, .string ⟨#[97, 99, 99, 101, 112, 116]⟩] h0 (fun v _ => v = .bool false) = (Value.bool false = .bool false) := by kernel_rfl
theorem nmd9_1 (x : ByteArray) : ffn Tryz.prog SP [] 1000 [] Tryz.f92 [.agg ⟨[.string ⟨#[120, 45, 102, 111, 114, 119, 97, 114, 100, 101, 100, 45, 104, 111, 115, 116]⟩, .string x]⟩, .string ⟨#[88, 45, 79, 110, 101]⟩] h0 (fun v _ => v = .bool false) = (Value.bool false = .bool false) := by kernel_rfl
theorem nmd9_2 (x : ByteArray) : ffn Tryz.prog SP [] 1000 [] Tryz.f92 [.agg ⟨[.string ⟨#[120, 45, 102, 111, 114, 119, 97, 114, 100, 101, 100, 45, 104, 111, 115, 116]⟩, .string x]⟩, .string ⟨#[110, 101, 119]⟩] h0 (fun v _ => v = .bool false) = (Value.bool false = .bool false) := by kernel_rfl
theorem nmd10_0 (x : ByteArray) : ffn Tryz.prog SP [] 1000 [] Tryz.f92 [.agg ⟨[.string ⟨#[116, 101]⟩, .string x]⟩, .string ⟨#[97, 99, 99, 101, 112, 116]⟩] h0 (fun v _ => v = .bool false) = (Value.bool false = .bool false) := by kernel_rfl
theorem nmd10_1 (x : ByteArray) : ffn Tryz.prog SP [] 1000 [] Tryz.f92 [.agg ⟨[.string ⟨#[116, 101]⟩, .string x]⟩, .string ⟨#[88, 45, 79, 110, 101]⟩] h0 (fun v _ => v = .bool false) = (Value.bool false = .bool false) := by kernel_rfl
theorem nmd10_2 (x : ByteArray) : ffn Tryz.prog SP [] 1000 [] Tryz.f92 [.agg ⟨[.string ⟨#[116, 101]⟩, .string x]⟩, .string ⟨#[110, 101, 119]⟩] h0 (fun v _ => v = .bool false) = (Value.bool false = .bool false) := by kernel_rfl
theorem nmd11_0 (x : ByteArray) : ffn Tryz.prog SP [] 1000 [] Tryz.f92 [.agg ⟨[.string ⟨#[88, 45, 79, 110, 101]⟩, .string x]⟩, .string ⟨#[97, 99, 99, 101, 112, 116]⟩] h0 (fun v _ => v = .bool false) = (Value.bool false = .bool false) := by kernel_rfl
theorem nmd11_1 (x : ByteArray) : ffn Tryz.prog SP [] 1000 [] Tryz.f92 [.agg ⟨[.string ⟨#[88, 45, 79, 110, 101]⟩, .string x]⟩, .string ⟨#[88, 45, 79, 110, 101]⟩] h0 (fun v _ => v = .bool true) = (Value.bool true = .bool true) := by kernel_rfl
theorem nmd11_2 (x : ByteArray) : ffn Tryz.prog SP [] 1000 [] Tryz.f92 [.agg ⟨[.string ⟨#[88, 45, 79, 110, 101]⟩, .string x]⟩, .string ⟨#[110, 101, 119]⟩] h0 (fun v _ => v = .bool false) = (Value.bool false = .bool false) := by kernel_rfl
theorem nmd12_0 (x : ByteArray) : ffn Tryz.prog SP [] 1000 [] Tryz.f92 [.agg ⟨[.string ⟨#[110, 101, 119]⟩, .string x]⟩, .string ⟨#[97, 99, 99, 101, 112, 116]⟩] h0 (fun v _ => v = .bool false) = (Value.bool false = .bool false) := by kernel_rfl
theorem nmd12_1 (x : ByteArray) : ffn Tryz.prog SP [] 1000 [] Tryz.f92 [.agg ⟨[.string ⟨#[110, 101, 119]⟩, .string x]⟩, .string ⟨#[88, 45, 79, 110, 101]⟩] h0 (fun v _ => v = .bool false) = (Value.bool false = .bool false) := by kernel_rfl
theorem nmd12_2 (x : ByteArray) : ffn Tryz.prog SP [] 1000 [] Tryz.f92 [.agg ⟨[.string ⟨#[110, 101, 119]⟩, .string x]⟩, .string ⟨#[110, 101, 119]⟩] h0 (fun v _ => v = .bool true) = (Value.bool true = .bool true) := by kernel_rfl
theorem tok_fn (s : ByteArray) (h : inU namesU s = true) : FnOK 0 Tryz.prog 89 ⟨[.string s]⟩ h0 (fun v _ => v = .bool true) := by
  have h := inU_mem h
  simp only [namesU, List.mem_cons, List.not_mem_nil, or_false] at h
  rcases h with rfl | rfl | rfl | rfl | rfl | rfl | rfl | rfl | rfl | rfl | rfl | rfl | rfl
  · exact FnOK.ftree SP_ok mixed Tryz.func89 some89 tok0 rfl
  · exact FnOK.ftree SP_ok mixed Tryz.func89 some89 tok1 rfl
  · exact FnOK.ftree SP_ok mixed Tryz.func89 some89 tok2 rfl
  · exact FnOK.ftree SP_ok mixed Tryz.func89 some89 tok3 rfl
  · exact FnOK.ftree SP_ok mixed Tryz.func89 some89 tok4 rfl
  · exact FnOK.ftree SP_ok mixed Tryz.func89 some89 tok5 rfl
  · exact FnOK.ftree SP_ok mixed Tryz.func89 some89 tok6 rfl
  · exact FnOK.ftree SP_ok mixed Tryz.func89 some89 tok7 rfl
  · exact FnOK.ftree SP_ok mixed Tryz.func89 some89 tok8 rfl
  · exact FnOK.ftree SP_ok mixed Tryz.func89 some89 tok9 rfl
  · exact FnOK.ftree SP_ok mixed Tryz.func89 some89 tok10 rfl
  · exact FnOK.ftree SP_ok mixed Tryz.func89 some89 tok11 rfl
  · exact FnOK.ftree SP_ok mixed Tryz.func89 some89 tok12 rfl
theorem fld_fn (s : ByteArray) (h : inU valsU s = true) : FnOK 0 Tryz.prog 50 ⟨[.string s]⟩ h0 (fun v _ => v = .bool true) := by
  have h := inU_mem h
  simp only [valsU, List.mem_cons, List.not_mem_nil, or_false] at h
  rcases h with rfl | rfl | rfl | rfl | rfl | rfl | rfl | rfl | rfl
  · exact FnOK.ftree SP_ok mixed Tryz.func50 some50 fld0 rfl
  · exact FnOK.ftree SP_ok mixed Tryz.func50 some50 fld1 rfl
  · exact FnOK.ftree SP_ok mixed Tryz.func50 some50 fld2 rfl
  · exact FnOK.ftree SP_ok mixed Tryz.func50 some50 fld3 rfl
  · exact FnOK.ftree SP_ok mixed Tryz.func50 some50 fld4 rfl
  · exact FnOK.ftree SP_ok mixed Tryz.func50 some50 fld5 rfl
  · exact FnOK.ftree SP_ok mixed Tryz.func50 some50 fld6 rfl
  · exact FnOK.ftree SP_ok mixed Tryz.func50 some50 fld7 rfl
  · exact FnOK.ftree SP_ok mixed Tryz.func50 some50 fld8 rfl
theorem nmd_fn (s m x : ByteArray) (h : inU namesU s = true) (h2 : inU asksU m = true) : FnOK 0 Tryz.prog 92 ⟨[.agg ⟨[.string s, .string x]⟩, .string m]⟩ h0 (fun v _ => v = .bool (named s m)) := by
  have h := inU_mem h
  have h2 := inU_mem h2
  simp only [namesU, List.mem_cons, List.not_mem_nil, or_false] at h
  simp only [asksU, List.mem_cons, List.not_mem_nil, or_false] at h2
  rcases h with rfl | rfl | rfl | rfl | rfl | rfl | rfl | rfl | rfl | rfl | rfl | rfl | rfl <;> rcases h2 with rfl | rfl | rfl
  · exact FnOK.ftree SP_ok mixed Tryz.func92 some92 (nmd0_0 x) rfl
  · exact FnOK.ftree SP_ok mixed Tryz.func92 some92 (nmd0_1 x) rfl
  · exact FnOK.ftree SP_ok mixed Tryz.func92 some92 (nmd0_2 x) rfl
  · exact FnOK.ftree SP_ok mixed Tryz.func92 some92 (nmd1_0 x) rfl
  · exact FnOK.ftree SP_ok mixed Tryz.func92 some92 (nmd1_1 x) rfl
  · exact FnOK.ftree SP_ok mixed Tryz.func92 some92 (nmd1_2 x) rfl
  · exact FnOK.ftree SP_ok mixed Tryz.func92 some92 (nmd2_0 x) rfl
  · exact FnOK.ftree SP_ok mixed Tryz.func92 some92 (nmd2_1 x) rfl
  · exact FnOK.ftree SP_ok mixed Tryz.func92 some92 (nmd2_2 x) rfl
  · exact FnOK.ftree SP_ok mixed Tryz.func92 some92 (nmd3_0 x) rfl
  · exact FnOK.ftree SP_ok mixed Tryz.func92 some92 (nmd3_1 x) rfl
  · exact FnOK.ftree SP_ok mixed Tryz.func92 some92 (nmd3_2 x) rfl
  · exact FnOK.ftree SP_ok mixed Tryz.func92 some92 (nmd4_0 x) rfl
  · exact FnOK.ftree SP_ok mixed Tryz.func92 some92 (nmd4_1 x) rfl
  · exact FnOK.ftree SP_ok mixed Tryz.func92 some92 (nmd4_2 x) rfl
  · exact FnOK.ftree SP_ok mixed Tryz.func92 some92 (nmd5_0 x) rfl
  · exact FnOK.ftree SP_ok mixed Tryz.func92 some92 (nmd5_1 x) rfl
  · exact FnOK.ftree SP_ok mixed Tryz.func92 some92 (nmd5_2 x) rfl
  · exact FnOK.ftree SP_ok mixed Tryz.func92 some92 (nmd6_0 x) rfl
  · exact FnOK.ftree SP_ok mixed Tryz.func92 some92 (nmd6_1 x) rfl
  · exact FnOK.ftree SP_ok mixed Tryz.func92 some92 (nmd6_2 x) rfl
  · exact FnOK.ftree SP_ok mixed Tryz.func92 some92 (nmd7_0 x) rfl
  · exact FnOK.ftree SP_ok mixed Tryz.func92 some92 (nmd7_1 x) rfl
  · exact FnOK.ftree SP_ok mixed Tryz.func92 some92 (nmd7_2 x) rfl
  · exact FnOK.ftree SP_ok mixed Tryz.func92 some92 (nmd8_0 x) rfl
  · exact FnOK.ftree SP_ok mixed Tryz.func92 some92 (nmd8_1 x) rfl
  · exact FnOK.ftree SP_ok mixed Tryz.func92 some92 (nmd8_2 x) rfl
  · exact FnOK.ftree SP_ok mixed Tryz.func92 some92 (nmd9_0 x) rfl
  · exact FnOK.ftree SP_ok mixed Tryz.func92 some92 (nmd9_1 x) rfl
  · exact FnOK.ftree SP_ok mixed Tryz.func92 some92 (nmd9_2 x) rfl
  · exact FnOK.ftree SP_ok mixed Tryz.func92 some92 (nmd10_0 x) rfl
  · exact FnOK.ftree SP_ok mixed Tryz.func92 some92 (nmd10_1 x) rfl
  · exact FnOK.ftree SP_ok mixed Tryz.func92 some92 (nmd10_2 x) rfl
  · exact FnOK.ftree SP_ok mixed Tryz.func92 some92 (nmd11_0 x) rfl
  · exact FnOK.ftree SP_ok mixed Tryz.func92 some92 (nmd11_1 x) rfl
  · exact FnOK.ftree SP_ok mixed Tryz.func92 some92 (nmd11_2 x) rfl
  · exact FnOK.ftree SP_ok mixed Tryz.func92 some92 (nmd12_0 x) rfl
  · exact FnOK.ftree SP_ok mixed Tryz.func92 some92 (nmd12_1 x) rfl
  · exact FnOK.ftree SP_ok mixed Tryz.func92 some92 (nmd12_2 x) rfl
def spTok (f : FuncId) (args : Array Value) (h : AH) : Option (Bool × Value × AH) :=
  cond (Nat.beq f 89) (match args with
    | ⟨[.string s]⟩ => some (inU namesU s, .bool (true), h)
    | _ => none) none
theorem spTok_ok : SpOK spTok := by
  intro f args h v h' hs
  unfold spTok at hs
  obtain ⟨hf, hs2⟩ := cond_some hs
  clear hs
  have hs := hs2
  clear hs2
  have := Nat.eq_of_beq_eq_true hf
  subst this
  split at hs
  · rename_i s
    injection hs with hs
    injection hs with hb hs
    injection hs with hv hh
    subst hv hh
    try simp only [Bool.and_eq_true] at hb
    exact ⟨FnOK.pure (tok_fn s hb) rfl rfl h, Nat.le_refl _⟩
  · cases hs
def spFld (f : FuncId) (args : Array Value) (h : AH) : Option (Bool × Value × AH) :=
  cond (Nat.beq f 50) (match args with
    | ⟨[.string s]⟩ => some (inU valsU s, .bool (true), h)
    | _ => none) none
theorem spFld_ok : SpOK spFld := by
  intro f args h v h' hs
  unfold spFld at hs
  obtain ⟨hf, hs2⟩ := cond_some hs
  clear hs
  have hs := hs2
  clear hs2
  have := Nat.eq_of_beq_eq_true hf
  subst this
  split at hs
  · rename_i s
    injection hs with hs
    injection hs with hb hs
    injection hs with hv hh
    subst hv hh
    try simp only [Bool.and_eq_true] at hb
    exact ⟨FnOK.pure (fld_fn s hb) rfl rfl h, Nat.le_refl _⟩
  · cases hs
def spNmd (f : FuncId) (args : Array Value) (h : AH) : Option (Bool × Value × AH) :=
  cond (Nat.beq f 92) (match args with
    | ⟨[.agg ⟨[.string s, .string x]⟩, .string m]⟩ => some (inU namesU s && inU asksU m, .bool (named s m), h)
    | _ => none) none
theorem spNmd_ok : SpOK spNmd := by
  intro f args h v h' hs
  unfold spNmd at hs
  obtain ⟨hf, hs2⟩ := cond_some hs
  clear hs
  have hs := hs2
  clear hs2
  have := Nat.eq_of_beq_eq_true hf
  subst this
  split at hs
  · rename_i s x m
    injection hs with hs
    injection hs with hb hs
    injection hs with hv hh
    subst hv hh
    try simp only [Bool.and_eq_true] at hb
    exact ⟨FnOK.pure (nmd_fn s m x hb.1 hb.2) rfl rfl h, Nat.le_refl _⟩
  · cases hs
end Go.Proofs.YthhdmehakpjhgaaGreatDoor
