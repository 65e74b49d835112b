/-
  Names and values of headers, as they are drawn: which are tokens, which are fields, which names are the same.
-/
import Derived.Test.YtfjfdemnnhfmoaaGreatDoorHoA
namespace Go.Proofs.YtfjfdemnnhfmoaaGreatDoor
open Go.Ev Go.RowKit

def lowN (n : Nat) : Nat := cond (Nat.ble 65 n && Nat.ble n 90) (n + 32) n
/-- Whether two names are the same but for great and small letters. -/
def named (a b : ByteArray) : Bool := beqN ((natsOf a).map lowN) ((natsOf b).map lowN)
def SP : SC := ⟨idn, fun _ _ _ => none, false, false⟩
theorem SP_ok : SP.cfg.OK Tryz.prog := none_ok.cfg
def namesU : List ByteArray := [⟨#[97, 99, 99, 101, 112, 116]⟩, ⟨#[65, 99, 99, 101, 112, 116]⟩, ⟨#[120, 45, 111, 110, 101]⟩, ⟨#[88, 45, 84, 119, 111]⟩, ⟨#[99, 111, 111, 107, 105, 101]⟩, ⟨#[118, 97, 114, 121]⟩, ⟨#[99, 111, 110, 110, 101, 99, 116, 105, 111, 110]⟩, ⟨#[120, 45, 102, 111, 114, 119, 97, 114, 100, 101, 100, 45, 102, 111, 114]⟩, ⟨#[118, 105, 97]⟩, ⟨#[120, 45, 102, 111, 114, 119, 97, 114, 100, 101, 100, 45, 104, 111, 115, 116]⟩, ⟨#[116, 101]⟩, ⟨#[103, 97, 116, 101, 45, 57]⟩, ⟨#[71, 69, 84]⟩, ⟨#[72, 69, 65, 68]⟩, ⟨#[80, 79, 83, 84]⟩, ⟨#[103, 101, 116]⟩]
def asksU : List ByteArray := [⟨#[118, 105, 97]⟩, ⟨#[99, 111, 110, 110, 101, 99, 116, 105, 111, 110]⟩, ⟨#[120, 45, 102, 111, 114, 119, 97, 114, 100, 101, 100, 45, 102, 111, 114]⟩, ⟨#[120, 45, 102, 111, 114, 119, 97, 114, 100, 101, 100, 45, 104, 111, 115, 116]⟩, ⟨#[107, 101, 101, 112, 45, 97, 108, 105, 118, 101]⟩, ⟨#[116, 101]⟩, ⟨#[116, 114, 97, 105, 108, 101, 114]⟩, ⟨#[117, 112, 103, 114, 97, 100, 101]⟩, ⟨#[49]⟩, ⟨#[120]⟩, ⟨#[97]⟩, ⟨#[98]⟩, ⟨#[120, 45, 111, 110, 101]⟩, ⟨#[99, 108, 111, 115, 101]⟩, ⟨#[103, 119]⟩, ⟨#[49, 46, 50, 46, 51, 46, 52]⟩, ⟨#[53, 46, 54, 46, 55, 46, 56]⟩, ⟨#[57, 46, 57, 46, 57, 46, 57]⟩]
def valsU : List ByteArray := []
theorem some59 : Tryz.f59.body.isSome = true := by kernel_rfl
theorem some128 : Tryz.f128.body.isSome = true := by kernel_rfl
theorem tok0 : ffn Tryz.prog SP [] 1000 [] Tryz.f59 [.string ⟨#[97, 99, 99, 101, 112, 116]⟩] h0 (fun v _ => v = .bool true) = (Value.bool true = .bool true) := by kernel_rfl
theorem tok1 : ffn Tryz.prog SP [] 1000 [] Tryz.f59 [.string ⟨#[65, 99, 99, 101, 112, 116]⟩] h0 (fun v _ => v = .bool true) = (Value.bool true = .bool true) := by kernel_rfl
theorem tok2 : ffn Tryz.prog SP [] 1000 [] Tryz.f59 [.string ⟨#[120, 45, 111, 110, 101]⟩] h0 (fun v _ => v = .bool true) = (Value.bool true = .bool true) := by kernel_rfl
theorem tok3 : ffn Tryz.prog SP [] 1000 [] Tryz.f59 [.string ⟨#[88, 45, 84, 119, 111]⟩] h0 (fun v _ => v = .bool true) = (Value.bool true = .bool true) := by kernel_rfl
theorem tok4 : ffn Tryz.prog SP [] 1000 [] Tryz.f59 [.string ⟨#[99, 111, 111, 107, 105, 101]⟩] h0 (fun v _ => v = .bool true) = (Value.bool true = .bool true) := by kernel_rfl
theorem tok5 : ffn Tryz.prog SP [] 1000 [] Tryz.f59 [.string ⟨#[118, 97, 114, 121]⟩] h0 (fun v _ => v = .bool true) = (Value.bool true = .bool true) := by kernel_rfl
theorem tok6 : ffn Tryz.prog SP [] 1000 [] Tryz.f59 [.string ⟨#[99, 111, 110, 110, 101, 99, 116, 105, 111, 110]⟩] h0 (fun v _ => v = .bool true) = (Value.bool true = .bool true) := by kernel_rfl
theorem tok7 : ffn Tryz.prog SP [] 1000 [] Tryz.f59 [.string ⟨#[120, 45, 102, 111, 114, 119, 97, 114, 100, 101, 100, 45, 102, 111, 114]⟩] h0 (fun v _ => v = .bool true) = (Value.bool true = .bool true) := by kernel_rfl
theorem tok8 : ffn Tryz.prog SP [] 1000 [] Tryz.f59 [.string ⟨#[118, 105, 97]⟩] h0 (fun v _ => v = .bool true) = (Value.bool true = .bool true) := by kernel_rfl
theorem tok9 : ffn Tryz.prog SP [] 1000 [] Tryz.f59 [.string ⟨#[120, 45, 102, 111, 114, 119, 97, 114, 100, 101, 100, 45, 104, 111, 115, 116]⟩] h0 (fun v _ => v = .bool true) = (Value.bool true = .bool true) := by kernel_rfl
theorem tok10 : ffn Tryz.prog SP [] 1000 [] Tryz.f59 [.string ⟨#[116, 101]⟩] h0 (fun v _ => v = .bool true) = (Value.bool true = .bool true) := by kernel_rfl
theorem tok11 : ffn Tryz.prog SP [] 1000 [] Tryz.f59 [.string ⟨#[103, 97, 116, 101, 45, 57]⟩] h0 (fun v _ => v = .bool true) = (Value.bool true = .bool true) := by kernel_rfl
theorem tok12 : ffn Tryz.prog SP [] 1000 [] Tryz.f59 [.string ⟨#[71, 69, 84]⟩] h0 (fun v _ => v = .bool true) = (Value.bool true = .bool true) := by kernel_rfl
theorem tok13 : ffn Tryz.prog SP [] 1000 [] Tryz.f59 [.string ⟨#[72, 69, 65, 68]⟩] h0 (fun v _ => v = .bool true) = (Value.bool true = .bool true) := by kernel_rfl
theorem tok14 : ffn Tryz.prog SP [] 1000 [] Tryz.f59 [.string ⟨#[80, 79, 83, 84]⟩] h0 (fun v _ => v = .bool true) = (Value.bool true = .bool true) := by kernel_rfl
theorem tok15 : ffn Tryz.prog SP [] 1000 [] Tryz.f59 [.string ⟨#[103, 101, 116]⟩] h0 (fun v _ => v = .bool true) = (Value.bool true = .bool true) := by kernel_rfl
theorem nmd0_0 (x : ByteArray) : ffn Tryz.prog SP [] 1000 [] Tryz.f128 [.agg ⟨[.string ⟨#[97, 99, 99, 101, 112, 116]⟩, .string x]⟩, .string ⟨#[118, 105, 97]⟩] h0 (fun v _ => v = .bool false) = (Value.bool false = .bool false) := by kernel_rfl
theorem nmd0_1 (x : ByteArray) : ffn Tryz.prog SP [] 1000 [] Tryz.f128 [.agg ⟨[.string ⟨#[97, 99, 99, 101, 112, 116]⟩, .string x]⟩, .string ⟨#[99, 111, 110, 110, 101, 99, 116, 105, 111, 110]⟩] h0 (fun v _ => v = .bool false) = (Value.bool false = .bool false) := by kernel_rfl
theorem nmd0_2 (x : ByteArray) : ffn Tryz.prog SP [] 1000 [] Tryz.f128 [.agg ⟨[.string ⟨#[97, 99, 99, 101, 112, 116]⟩, .string x]⟩, .string ⟨#[120, 45, 102, 111, 114, 119, 97, 114, 100, 101, 100, 45, 102, 111, 114]⟩] h0 (fun v _ => v = .bool false) = (Value.bool false = .bool false) := by kernel_rfl
theorem nmd0_3 (x : ByteArray) : ffn Tryz.prog SP [] 1000 [] Tryz.f128 [.agg ⟨[.string ⟨#[97, 99, 99, 101, 112, 116]⟩, .string x]⟩, .string ⟨#[120, 45, 102, 111, 114, 119, 97, 114, 100, 101, 100, 45, 104, 111, 115, 116]⟩] h0 (fun v _ => v = .bool false) = (Value.bool false = .bool false) := by kernel_rfl
theorem nmd0_4 (x : ByteArray) : ffn Tryz.prog SP [] 1000 [] Tryz.f128 [.agg ⟨[.string ⟨#[97, 99, 99, 101, 112, 116]⟩, .string x]⟩, .string ⟨#[107, 101, 101, 112, 45, 97, 108, 105, 118, 101]⟩] h0 (fun v _ => v = .bool false) = (Value.bool false = .bool false) := by kernel_rfl
theorem nmd0_5 (x : ByteArray) : ffn Tryz.prog SP [] 1000 [] Tryz.f128 [.agg ⟨[.string ⟨#[97, 99, 99, 101, 112, 116]⟩, .string x]⟩, .string ⟨#[116, 101]⟩] h0 (fun v _ => v = .bool false) = (Value.bool false = .bool false) := by kernel_rfl
theorem nmd0_6 (x : ByteArray) : ffn Tryz.prog SP [] 1000 [] Tryz.f128 [.agg ⟨[.string ⟨#[97, 99, 99, 101, 112, 116]⟩, .string x]⟩, .string ⟨#[116, 114, 97, 105, 108, 101, 114]⟩] h0 (fun v _ => v = .bool false) = (Value.bool false = .bool false) := by kernel_rfl
theorem nmd0_7 (x : ByteArray) : ffn Tryz.prog SP [] 1000 [] Tryz.f128 [.agg ⟨[.string ⟨#[97, 99, 99, 101, 112, 116]⟩, .string x]⟩, .string ⟨#[117, 112, 103, 114, 97, 100, 101]⟩] h0 (fun v _ => v = .bool false) = (Value.bool false = .bool false) := by kernel_rfl
theorem nmd0_8 (x : ByteArray) : ffn Tryz.prog SP [] 1000 [] Tryz.f128 [.agg ⟨[.string ⟨#[97, 99, 99, 101, 112, 116]⟩, .string x]⟩, .string ⟨#[49]⟩] h0 (fun v _ => v = .bool false) = (Value.bool false = .bool false) := by kernel_rfl
theorem nmd0_9 (x : ByteArray) : ffn Tryz.prog SP [] 1000 [] Tryz.f128 [.agg ⟨[.string ⟨#[97, 99, 99, 101, 112, 116]⟩, .string x]⟩, .string ⟨#[120]⟩] h0 (fun v _ => v = .bool false) = (Value.bool false = .bool false) := by kernel_rfl
theorem nmd0_10 (x : ByteArray) : ffn Tryz.prog SP [] 1000 [] Tryz.f128 [.agg ⟨[.string ⟨#[97, 99, 99, 101, 112, 116]⟩, .string x]⟩, .string ⟨#[97]⟩] h0 (fun v _ => v = .bool false) = (Value.bool false = .bool false) := by kernel_rfl
theorem nmd0_11 (x : ByteArray) : ffn Tryz.prog SP [] 1000 [] Tryz.f128 [.agg ⟨[.string ⟨#[97, 99, 99, 101, 112, 116]⟩, .string x]⟩, .string ⟨#[98]⟩] h0 (fun v _ => v = .bool false) = (Value.bool false = .bool false) := by kernel_rfl
theorem nmd0_12 (x : ByteArray) : ffn Tryz.prog SP [] 1000 [] Tryz.f128 [.agg ⟨[.string ⟨#[97, 99, 99, 101, 112, 116]⟩, .string x]⟩, .string ⟨#[120, 45, 111, 110, 101]⟩] h0 (fun v _ => v = .bool false) = (Value.bool false = .bool false) := by kernel_rfl
theorem nmd0_13 (x : ByteArray) : ffn Tryz.prog SP [] 1000 [] Tryz.f128 [.agg ⟨[.string ⟨#[97, 99, 99, 101, 112, 116]⟩, .string x]⟩, .string ⟨#[99, 108, 111, 115, 101]⟩] h0 (fun v _ => v = .bool false) = (Value.bool false = .bool false) := by kernel_rfl
theorem nmd0_14 (x : ByteArray) : ffn Tryz.prog SP [] 1000 [] Tryz.f128 [.agg ⟨[.string ⟨#[97, 99, 99, 101, 112, 116]⟩, .string x]⟩, .string ⟨#[103, 119]⟩] h0 (fun v _ => v = .bool false) = (Value.bool false = .bool false) := by kernel_rfl
theorem nmd0_15 (x : ByteArray) : ffn Tryz.prog SP [] 1000 [] Tryz.f128 [.agg ⟨[.string ⟨#[97, 99, 99, 101, 112, 116]⟩, .string x]⟩, .string ⟨#[49, 46, 50, 46, 51, 46, 52]⟩] h0 (fun v _ => v = .bool false) = (Value.bool false = .bool false) := by kernel_rfl
theorem nmd0_16 (x : ByteArray) : ffn Tryz.prog SP [] 1000 [] Tryz.f128 [.agg ⟨[.string ⟨#[97, 99, 99, 101, 112, 116]⟩, .string x]⟩, .string ⟨#[53, 46, 54, 46, 55, 46, 56]⟩] h0 (fun v _ => v = .bool false) = (Value.bool false = .bool false) := by kernel_rfl
theorem nmd0_17 (x : ByteArray) : ffn Tryz.prog SP [] 1000 [] Tryz.f128 [.agg ⟨[.string ⟨#[97, 99, 99, 101, 112, 116]⟩, .string x]⟩, .string ⟨#[57, 46, 57, 46, 57, 46, 57]⟩] h0 (fun v _ => v = .bool false) = (Value.bool false = .bool false) := by kernel_rfl
theorem nmd1_0 (x : ByteArray) : ffn Tryz.prog SP [] 1000 [] Tryz.f128 [.agg ⟨[.string ⟨#[65, 99, 99, 101, 112, 116]⟩, .string x]⟩, .string ⟨#[118, 105, 97]⟩] h0 (fun v _ => v = .bool false) = (Value.bool false = .bool false) := by kernel_rfl
theorem nmd1_1 (x : ByteArray) : ffn Tryz.prog SP [] 1000 [] Tryz.f128 [.agg ⟨[.string ⟨#[65, 99, 99, 101, 112, 116]⟩, .string x]⟩, .string ⟨#[99, 111, 110, 110, 101, 99, 116, 105, 111, 110]⟩] h0 (fun v _ => v = .bool false) = (Value.bool false = .bool false) := by kernel_rfl
theorem nmd1_2 (x : ByteArray) : ffn Tryz.prog SP [] 1000 [] Tryz.f128 [.agg ⟨[.string ⟨#[65, 99, 99, 101, 112, 116]⟩, .string x]⟩, .string ⟨#[120, 45, 102, 111, 114, 119, 97, 114, 100, 101, 100, 45, 102, 111, 114]⟩] h0 (fun v _ => v = .bool false) = (Value.bool false = .bool false) := by kernel_rfl
theorem nmd1_3 (x : ByteArray) : ffn Tryz.prog SP [] 1000 [] Tryz.f128 [.agg ⟨[.string ⟨#[65, 99, 99, 101, 112, 116]⟩, .string x]⟩, .string ⟨#[120, 45, 102, 111, 114, 119, 97, 114, 100, 101, 100, 45, 104, 111, 115, 116]⟩] h0 (fun v _ => v = .bool false) = (Value.bool false = .bool false) := by kernel_rfl
theorem nmd1_4 (x : ByteArray) : ffn Tryz.prog SP [] 1000 [] Tryz.f128 [.agg ⟨[.string ⟨#[65, 99, 99, 101, 112, 116]⟩, .string x]⟩, .string ⟨#[107, 101, 101, 112, 45, 97, 108, 105, 118, 101]⟩] h0 (fun v _ => v = .bool false) = (Value.bool false = .bool false) := by kernel_rfl
theorem nmd1_5 (x : ByteArray) : ffn Tryz.prog SP [] 1000 [] Tryz.f128 [.agg ⟨[.string ⟨#[65, 99, 99, 101, 112, 116]⟩, .string x]⟩, .string ⟨#[116, 101]⟩] h0 (fun v _ => v = .bool false) = (Value.bool false = .bool false) := by kernel_rfl
theorem nmd1_6 (x : ByteArray) : ffn Tryz.prog SP [] 1000 [] Tryz.f128 [.agg ⟨[.string ⟨#[65, 99, 99, 101, 112, 116]⟩, .string x]⟩, .string ⟨#[116, 114, 97, 105, 108, 101, 114]⟩] h0 (fun v _ => v = .bool false) = (Value.bool false = .bool false) := by kernel_rfl
theorem nmd1_7 (x : ByteArray) : ffn Tryz.prog SP [] 1000 [] Tryz.f128 [.agg ⟨[.string ⟨#[65, 99, 99, 101, 112, 116]⟩, .string x]⟩, .string ⟨#[117, 112, 103, 114, 97, 100, 101]⟩] h0 (fun v _ => v = .bool false) = (Value.bool false = .bool false) := by kernel_rfl
theorem nmd1_8 (x : ByteArray) : ffn Tryz.prog SP [] 1000 [] Tryz.f128 [.agg ⟨[.string ⟨#[65, 99, 99, 101, 112, 116]⟩, .string x]⟩, .string ⟨#[49]⟩] h0 (fun v _ => v = .bool false) = (Value.bool false = .bool false) := by kernel_rfl
theorem nmd1_9 (x : ByteArray) : ffn Tryz.prog SP [] 1000 [] Tryz.f128 [.agg ⟨[.string ⟨#[65, 99, 99, 101, 112, 116]⟩, .string x]⟩, .string ⟨#[120]⟩] h0 (fun v _ => v = .bool false) = (Value.bool false = .bool false) := by kernel_rfl
theorem nmd1_10 (x : ByteArray) : ffn Tryz.prog SP [] 1000 [] Tryz.f128 [.agg ⟨[.string ⟨#[65, 99, 99, 101, 112, 116]⟩, .string x]⟩, .string ⟨#[97]⟩] h0 (fun v _ => v = .bool false) = (Value.bool false = .bool false) := by kernel_rfl
theorem nmd1_11 (x : ByteArray) : ffn Tryz.prog SP [] 1000 [] Tryz.f128 [.agg ⟨[.string ⟨#[65, 99, 99, 101, 112, 116]⟩, .string x]⟩, .string ⟨#[98]⟩] h0 (fun v _ => v = .bool false) = (Value.bool false = .bool false) := by kernel_rfl
theorem nmd1_12 (x : ByteArray) : ffn Tryz.prog SP [] 1000 [] Tryz.f128 [.agg ⟨[.string ⟨#[65, 99, 99, 101, 112, 116]⟩, .string x]⟩, .string ⟨#[120, 45, 111, 110, 101]⟩] h0 (fun v _ => v = .bool false) = (Value.bool false = .bool false) := by kernel_rfl
theorem nmd1_13 (x : ByteArray) : ffn Tryz.prog SP [] 1000 [] Tryz.f128 [.agg ⟨[.string ⟨#[65, 99, 99, 101, 112, 116]⟩, .string x]⟩, .string ⟨#[99, 108, 111, 115, 101]⟩] h0 (fun v _ => v = .bool false) = (Value.bool false = .bool false) := by kernel_rfl
theorem nmd1_14 (x : ByteArray) : ffn Tryz.prog SP [] 1000 [] Tryz.f128 [.agg ⟨[.string ⟨#[65, 99, 99, 101, 112, 116]⟩, .string x]⟩, .string ⟨#[103, 119]⟩] h0 (fun v _ => v = .bool false) = (Value.bool false = .bool false) := by kernel_rfl
theorem nmd1_15 (x : ByteArray) : ffn Tryz.prog SP [] 1000 [] Tryz.f128 [.agg ⟨[.string ⟨#[65, 99, 99, 101, 112, 116]⟩, .string x]⟩, .string ⟨#[49, 46, 50, 46, 51, 46, 52]⟩] h0 (fun v _ => v = .bool false) = (Value.bool false = .bool false) := by kernel_rfl
theorem nmd1_16 (x : ByteArray) : ffn Tryz.prog SP [] 1000 [] Tryz.f128 [.agg ⟨[.string ⟨#[65, 99, 99, 101, 112, 116]⟩, .string x]⟩, .string ⟨#[53, 46, 54, 46, 55, 46, 56]⟩] h0 (fun v _ => v = .bool false) = (Value.bool false = .bool false) := by kernel_rfl
theorem nmd1_17 (x : ByteArray) : ffn Tryz.prog SP [] 1000 [] Tryz.f128 [.agg ⟨[.string ⟨#[65, 99, 99, 101, 112, 116]⟩, .string x]⟩, .string ⟨#[57, 46, 57, 46, 57, 46, 57]⟩] h0 (fun v _ => v = .bool false) = (Value.bool false = .bool false) := by kernel_rfl
theorem nmd2_0 (x : ByteArray) : ffn Tryz.prog SP [] 1000 [] Tryz.f128 [.agg ⟨[.string ⟨#[120, 45, 111, 110, 101]⟩, .string x]⟩, .string ⟨#[118, 105, 97]⟩] h0 (fun v _ => v = .bool false) = (Value.bool false = .bool false) := by kernel_rfl
theorem nmd2_1 (x : ByteArray) : ffn Tryz.prog SP [] 1000 [] Tryz.f128 [.agg ⟨[.string ⟨#[120, 45, 111, 110, 101]⟩, .string x]⟩, .string ⟨#[99, 111, 110, 110, 101, 99, 116, 105, 111, 110]⟩] h0 (fun v _ => v = .bool false) = (Value.bool false = .bool false) := by kernel_rfl
theorem nmd2_2 (x : ByteArray) : ffn Tryz.prog SP [] 1000 [] Tryz.f128 [.agg ⟨[.string ⟨#[120, 45, 111, 110, 101]⟩, .string x]⟩, .string ⟨#[120, 45, 102, 111, 114, 119, 97, 114, 100, 101, 100, 45, 102, 111, 114]⟩] h0 (fun v _ => v = .bool false) = (Value.bool false = .bool false) := by kernel_rfl
theorem nmd2_3 (x : ByteArray) : ffn Tryz.prog SP [] 1000 [] Tryz.f128 [.agg ⟨[.string ⟨#[120, 45, 111, 110, 101]⟩, .string x]⟩, .string ⟨#[120, 45, 102, 111, 114, 119, 97, 114, 100, 101, 100, 45, 104, 111, 115, 116]⟩] h0 (fun v _ => v = .bool false) = (Value.bool false = .bool false) := by kernel_rfl
theorem nmd2_4 (x : ByteArray) : ffn Tryz.prog SP [] 1000 [] Tryz.f128 [.agg ⟨[.string ⟨#[120, 45, 111, 110, 101]⟩, .string x]⟩, .string ⟨#[107, 101, 101, 112, 45, 97, 108, 105, 118, 101]⟩] h0 (fun v _ => v = .bool false) = (Value.bool false = .bool false) := by kernel_rfl
theorem nmd2_5 (x : ByteArray) : ffn Tryz.prog SP [] 1000 [] Tryz.f128 [.agg ⟨[.string ⟨#[120, 45, 111, 110, 101]⟩, .string x]⟩, .string ⟨#[116, 101]⟩] h0 (fun v _ => v = .bool false) = (Value.bool false = .bool false) := by kernel_rfl
theorem nmd2_6 (x : ByteArray) : ffn Tryz.prog SP [] 1000 [] Tryz.f128 [.agg ⟨[.string ⟨#[120, 45, 111, 110, 101]⟩, .string x]⟩, .string ⟨#[116, 114, 97, 105, 108, 101, 114]⟩] h0 (fun v _ => v = .bool false) = (Value.bool false = .bool false) := by kernel_rfl
theorem nmd2_7 (x : ByteArray) : ffn Tryz.prog SP [] 1000 [] Tryz.f128 [.agg ⟨[.string ⟨#[120, 45, 111, 110, 101]⟩, .string x]⟩, .string ⟨#[117, 112, 103, 114, 97, 100, 101]⟩] h0 (fun v _ => v = .bool false) = (Value.bool false = .bool false) := by kernel_rfl
theorem nmd2_8 (x : ByteArray) : ffn Tryz.prog SP [] 1000 [] Tryz.f128 [.agg ⟨[.string ⟨#[120, 45, 111, 110, 101]⟩, .string x]⟩, .string ⟨#[49]⟩] h0 (fun v _ => v = .bool false) = (Value.bool false = .bool false) := by kernel_rfl
theorem nmd2_9 (x : ByteArray) : ffn Tryz.prog SP [] 1000 [] Tryz.f128 [.agg ⟨[.string ⟨#[120, 45, 111, 110, 101]⟩, .string x]⟩, .string ⟨#[120]⟩] h0 (fun v _ => v = .bool false) = (Value.bool false = .bool false) := by kernel_rfl
theorem nmd2_10 (x : ByteArray) : ffn Tryz.prog SP [] 1000 [] Tryz.f128 [.agg ⟨[.string ⟨#[120, 45, 111, 110, 101]⟩, .string x]⟩, .string ⟨#[97]⟩] h0 (fun v _ => v = .bool false) = (Value.bool false = .bool false) := by kernel_rfl
theorem nmd2_11 (x : ByteArray) : ffn Tryz.prog SP [] 1000 [] Tryz.f128 [.agg ⟨[.string ⟨#[120, 45, 111, 110, 101]⟩, .string x]⟩, .string ⟨#[98]⟩] h0 (fun v _ => v = .bool false) = (Value.bool false = .bool false) := by kernel_rfl
theorem nmd2_12 (x : ByteArray) : ffn Tryz.prog SP [] 1000 [] Tryz.f128 [.agg ⟨[.string ⟨#[120, 45, 111, 110, 101]⟩, .string x]⟩, .string ⟨#[120, 45, 111, 110, 101]⟩] h0 (fun v _ => v = .bool true) = (Value.bool true = .bool true) := by kernel_rfl
theorem nmd2_13 (x : ByteArray) : ffn Tryz.prog SP [] 1000 [] Tryz.f128 [.agg ⟨[.string ⟨#[120, 45, 111, 110, 101]⟩, .string x]⟩, .string ⟨#[99, 108, 111, 115, 101]⟩] h0 (fun v _ => v = .bool false) = (Value.bool false = .bool false) := by kernel_rfl
theorem nmd2_14 (x : ByteArray) : ffn Tryz.prog SP [] 1000 [] Tryz.f128 [.agg ⟨[.string ⟨#[120, 45, 111, 110, 101]⟩, .string x]⟩, .string ⟨#[103, 119]⟩] h0 (fun v _ => v = .bool false) = (Value.bool false = .bool false) := by kernel_rfl
theorem nmd2_15 (x : ByteArray) : ffn Tryz.prog SP [] 1000 [] Tryz.f128 [.agg ⟨[.string ⟨#[120, 45, 111, 110, 101]⟩, .string x]⟩, .string ⟨#[49, 46, 50, 46, 51, 46, 52]⟩] h0 (fun v _ => v = .bool false) = (Value.bool false = .bool false) := by kernel_rfl
theorem nmd2_16 (x : ByteArray) : ffn Tryz.prog SP [] 1000 [] Tryz.f128 [.agg ⟨[.string ⟨#[120, 45, 111, 110, 101]⟩, .string x]⟩, .string ⟨#[53, 46, 54, 46, 55, 46, 56]⟩] h0 (fun v _ => v = .bool false) = (Value.bool false = .bool false) := by kernel_rfl
theorem nmd2_17 (x : ByteArray) : ffn Tryz.prog SP [] 1000 [] Tryz.f128 [.agg ⟨[.string ⟨#[120, 45, 111, 110, 101]⟩, .string x]⟩, .string ⟨#[57, 46, 57, 46, 57, 46, 57]⟩] h0 (fun v _ => v = .bool false) = (Value.bool false = .bool false) := by kernel_rfl
theorem nmd3_0 (x : ByteArray) : ffn Tryz.prog SP [] 1000 [] Tryz.f128 [.agg ⟨[.string ⟨#[88, 45, 84, 119, 111]⟩, .string x]⟩, .string ⟨#[118, 105, 97]⟩] h0 (fun v _ => v = .bool false) = (Value.bool false = .bool false) := by kernel_rfl
theorem nmd3_1 (x : ByteArray) : ffn Tryz.prog SP [] 1000 [] Tryz.f128 [.agg ⟨[.string ⟨#[88, 45, 84, 119, 111]⟩, .string x]⟩, .string ⟨#[99, 111, 110, 110, 101, 99, 116, 105, 111, 110]⟩] h0 (fun v _ => v = .bool false) = (Value.bool false = .bool false) := by kernel_rfl
theorem nmd3_2 (x : ByteArray) : ffn Tryz.prog SP [] 1000 [] Tryz.f128 [.agg ⟨[.string ⟨#[88, 45, 84, 119, 111]⟩, .string x]⟩, .string ⟨#[120, 45, 102, 111, 114, 119, 97, 114, 100, 101, 100, 45, 102, 111, 114]⟩] h0 (fun v _ => v = .bool false) = (Value.bool false = .bool false) := by kernel_rfl
theorem nmd3_3 (x : ByteArray) : ffn Tryz.prog SP [] 1000 [] Tryz.f128 [.agg ⟨[.string ⟨#[88, 45, 84, 119, 111]⟩, .string x]⟩, .string ⟨#[120, 45, 102, 111, 114, 119, 97, 114, 100, 101, 100, 45, 104, 111, 115, 116]⟩] h0 (fun v _ => v = .bool false) = (Value.bool false = .bool false) := by kernel_rfl
theorem nmd3_4 (x : ByteArray) : ffn Tryz.prog SP [] 1000 [] Tryz.f128 [.agg ⟨[.string ⟨#[88, 45, 84, 119, 111]⟩, .string x]⟩, .string ⟨#[107, 101, 101, 112, 45, 97, 108, 105, 118, 101]⟩] h0 (fun v _ => v = .bool false) = (Value.bool false = .bool false) := by kernel_rfl
theorem nmd3_5 (x : ByteArray) : ffn Tryz.prog SP [] 1000 [] Tryz.f128 [.agg ⟨[.string ⟨#[88, 45, 84, 119, 111]⟩, .string x]⟩, .string ⟨#[116, 101]⟩] h0 (fun v _ => v = .bool false) = (Value.bool false = .bool false) := by kernel_rfl
theorem nmd3_6 (x : ByteArray) : ffn Tryz.prog SP [] 1000 [] Tryz.f128 [.agg ⟨[.string ⟨#[88, 45, 84, 119, 111]⟩, .string x]⟩, .string ⟨#[116, 114, 97, 105, 108, 101, 114]⟩] h0 (fun v _ => v = .bool false) = (Value.bool false = .bool false) := by kernel_rfl
theorem nmd3_7 (x : ByteArray) : ffn Tryz.prog SP [] 1000 [] Tryz.f128 [.agg ⟨[.string ⟨#[88, 45, 84, 119, 111]⟩, .string x]⟩, .string ⟨#[117, 112, 103, 114, 97, 100, 101]⟩] h0 (fun v _ => v = .bool false) = (Value.bool false = .bool false) := by kernel_rfl
theorem nmd3_8 (x : ByteArray) : ffn Tryz.prog SP [] 1000 [] Tryz.f128 [.agg ⟨[.string ⟨#[88, 45, 84, 119, 111]⟩, .string x]⟩, .string ⟨#[49]⟩] h0 (fun v _ => v = .bool false) = (Value.bool false = .bool false) := by kernel_rfl
theorem nmd3_9 (x : ByteArray) : ffn Tryz.prog SP [] 1000 [] Tryz.f128 [.agg ⟨[.string ⟨#[88, 45, 84, 119, 111]⟩, .string x]⟩, .string ⟨#[120]⟩] h0 (fun v _ => v = .bool false) = (Value.bool false = .bool false) := by kernel_rfl
theorem nmd3_10 (x : ByteArray) : ffn Tryz.prog SP [] 1000 [] Tryz.f128 [.agg ⟨[.string ⟨#[88, 45, 84, 119, 111]⟩, .string x]⟩, .string ⟨#[97]⟩] h0 (fun v _ => v = .bool false) = (Value.bool false = .bool false) := by kernel_rfl
theorem nmd3_11 (x : ByteArray) : ffn Tryz.prog SP [] 1000 [] Tryz.f128 [.agg ⟨[.string ⟨#[88, 45, 84, 119, 111]⟩, .string x]⟩, .string ⟨#[98]⟩] h0 (fun v _ => v = .bool false) = (Value.bool false = .bool false) := by kernel_rfl
theorem nmd3_12 (x : ByteArray) : ffn Tryz.prog SP [] 1000 [] Tryz.f128 [.agg ⟨[.string ⟨#[88, 45, 84, 119, 111]⟩, .string x]⟩, .string ⟨#[120, 45, 111, 110, 101]⟩] h0 (fun v _ => v = .bool false) = (Value.bool false = .bool false) := by kernel_rfl
theorem nmd3_13 (x : ByteArray) : ffn Tryz.prog SP [] 1000 [] Tryz.f128 [.agg ⟨[.string ⟨#[88, 45, 84, 119, 111]⟩, .string x]⟩, .string ⟨#[99, 108, 111, 115, 101]⟩] h0 (fun v _ => v = .bool false) = (Value.bool false = .bool false) := by kernel_rfl
theorem nmd3_14 (x : ByteArray) : ffn Tryz.prog SP [] 1000 [] Tryz.f128 [.agg ⟨[.string ⟨#[88, 45, 84, 119, 111]⟩, .string x]⟩, .string ⟨#[103, 119]⟩] h0 (fun v _ => v = .bool false) = (Value.bool false = .bool false) := by kernel_rfl
theorem nmd3_15 (x : ByteArray) : ffn Tryz.prog SP [] 1000 [] Tryz.f128 [.agg ⟨[.string ⟨#[88, 45, 84, 119, 111]⟩, .string x]⟩, .string ⟨#[49, 46, 50, 46, 51, 46, 52]⟩] h0 (fun v _ => v = .bool false) = (Value.bool false = .bool false) := by kernel_rfl
theorem nmd3_16 (x : ByteArray) : ffn Tryz.prog SP [] 1000 [] Tryz.f128 [.agg ⟨[.string ⟨#[88, 45, 84, 119, 111]⟩, .string x]⟩, .string ⟨#[53, 46, 54, 46, 55, 46, 56]⟩] h0 (fun v _ => v = .bool false) = (Value.bool false = .bool false) := by kernel_rfl
theorem nmd3_17 (x : ByteArray) : ffn Tryz.prog SP [] 1000 [] Tryz.f128 [.agg ⟨[.string ⟨#[88, 45, 84, 119, 111]⟩, .string x]⟩, .string ⟨#[57, 46, 57, 46, 57, 46, 57]⟩] h0 (fun v _ => v = .bool false) = (Value.bool false = .bool false) := by kernel_rfl
theorem nmd4_0 (x : ByteArray) : ffn Tryz.prog SP [] 1000 [] Tryz.f128 [.agg ⟨[.string ⟨#[99, 111, 111, 107, 105, 101]⟩, .string x]⟩, .string ⟨#[118, 105, 97]⟩] h0 (fun v _ => v = .bool false) = (Value.bool false = .bool false) := by kernel_rfl
theorem nmd4_1 (x : ByteArray) : ffn Tryz.prog SP [] 1000 [] Tryz.f128 [.agg ⟨[.string ⟨#[99, 111, 111, 107, 105, 101]⟩, .string x]⟩, .string ⟨#[99, 111, 110, 110, 101, 99, 116, 105, 111, 110]⟩] h0 (fun v _ => v = .bool false) = (Value.bool false = .bool false) := by kernel_rfl
theorem nmd4_2 (x : ByteArray) : ffn Tryz.prog SP [] 1000 [] Tryz.f128 [.agg ⟨[.string ⟨#[99, 111, 111, 107, 105, 101]⟩, .string x]⟩, .string ⟨#[120, 45, 102, 111, 114, 119, 97, 114, 100, 101, 100, 45, 102, 111, 114]⟩] h0 (fun v _ => v = .bool false) = (Value.bool false = .bool false) := by kernel_rfl
theorem nmd4_3 (x : ByteArray) : ffn Tryz.prog SP [] 1000 [] Tryz.f128 [.agg ⟨[.string ⟨#[99, 111, 111, 107, 105, 101]⟩, .string x]⟩, .string ⟨#[120, 45, 102, 111, 114, 119, 97, 114, 100, 101, 100, 45, 104, 111, 115, 116]⟩] h0 (fun v _ => v = .bool false) = (Value.bool false = .bool false) := by kernel_rfl
theorem nmd4_4 (x : ByteArray) : ffn Tryz.prog SP [] 1000 [] Tryz.f128 [.agg ⟨[.string ⟨#[99, 111, 111, 107, 105, 101]⟩, .string x]⟩, .string ⟨#[107, 101, 101, 112, 45, 97, 108, 105, 118, 101]⟩] h0 (fun v _ => v = .bool false) = (Value.bool false = .bool false) := by kernel_rfl
theorem nmd4_5 (x : ByteArray) : ffn Tryz.prog SP [] 1000 [] Tryz.f128 [.agg ⟨[.string ⟨#[99, 111, 111, 107, 105, 101]⟩, .string x]⟩, .string ⟨#[116, 101]⟩] h0 (fun v _ => v = .bool false) = (Value.bool false = .bool false) := by kernel_rfl
theorem nmd4_6 (x : ByteArray) : ffn Tryz.prog SP [] 1000 [] Tryz.f128 [.agg ⟨[.string ⟨#[99, 111, 111, 107, 105, 101]⟩, .string x]⟩, .string ⟨#[116, 114, 97, 105, 108, 101, 114]⟩] h0 (fun v _ => v = .bool false) = (Value.bool false = .bool false) := by kernel_rfl
theorem nmd4_7 (x : ByteArray) : ffn Tryz.prog SP [] 1000 [] Tryz.f128 [.agg ⟨[.string ⟨#[99, 111, 111, 107, 105, 101]⟩, .string x]⟩, .string ⟨#[117, 112, 103, 114, 97, 100, 101]⟩] h0 (fun v _ => v = .bool false) = (Value.bool false = .bool false) := by kernel_rfl
theorem nmd4_8 (x : ByteArray) : ffn Tryz.prog SP [] 1000 [] Tryz.f128 [.agg ⟨[.string ⟨#[99, 111, 111, 107, 105, 101]⟩, .string x]⟩, .string ⟨#[49]⟩] h0 (fun v _ => v = .bool false) = (Value.bool false = .bool false) := by kernel_rfl
theorem nmd4_9 (x : ByteArray) : ffn Tryz.prog SP [] 1000 [] Tryz.f128 [.agg ⟨[.string ⟨#[99, 111, 111, 107, 105, 101]⟩, .string x]⟩, .string ⟨#[120]⟩] h0 (fun v _ => v = .bool false) = (Value.bool false = .bool false) := by kernel_rfl
theorem nmd4_10 (x : ByteArray) : ffn Tryz.prog SP [] 1000 [] Tryz.f128 [.agg ⟨[.string ⟨#[99, 111, 111, 107, 105, 101]⟩, .string x]⟩, .string ⟨#[97]⟩] h0 (fun v _ => v = .bool false) = (Value.bool false = .bool false) := by kernel_rfl
theorem nmd4_11 (x : ByteArray) : ffn Tryz.prog SP [] 1000 [] Tryz.f128 [.agg ⟨[.string ⟨#[99, 111, 111, 107, 105, 101]⟩, .string x]⟩, .string ⟨#[98]⟩] h0 (fun v _ => v = .bool false) = (Value.bool false = .bool false) := by kernel_rfl
theorem nmd4_12 (x : ByteArray) : ffn Tryz.prog SP [] 1000 [] Tryz.f128 [.agg ⟨[.string ⟨#[99, 111, 111, 107, 105, 101]⟩, .string x]⟩, .string ⟨#[120, 45, 111, 110, 101]⟩] h0 (fun v _ => v = .bool false) = (Value.bool false = .bool false) := by kernel_rfl
theorem nmd4_13 (x : ByteArray) : ffn Tryz.prog SP [] 1000 [] Tryz.f128 [.agg ⟨[.string ⟨#[99, 111, 111, 107, 105, 101]⟩, .string x]⟩, .string ⟨#[99, 108, 111, 115, 101]⟩] h0 (fun v _ => v = .bool false) = (Value.bool false = .bool false) := by kernel_rfl
theorem nmd4_14 (x : ByteArray) : ffn Tryz.prog SP [] 1000 [] Tryz.f128 [.agg ⟨[.string ⟨#[99, 111, 111, 107, 105, 101]⟩, .string x]⟩, .string ⟨#[103, 119]⟩] h0 (fun v _ => v = .bool false) = (Value.bool false = .bool false) := by kernel_rfl
theorem nmd4_15 (x : ByteArray) : ffn Tryz.prog SP [] 1000 [] Tryz.f128 [.agg ⟨[.string ⟨#[99, 111, 111, 107, 105, 101]⟩, .string x]⟩, .string ⟨#[49, 46, 50, 46, 51, 46, 52]⟩] h0 (fun v _ => v = .bool false) = (Value.bool false = .bool false) := by kernel_rfl
theorem nmd4_16 (x : ByteArray) : ffn Tryz.prog SP [] 1000 [] Tryz.f128 [.agg ⟨[.string ⟨#[99, 111, 111, 107, 105, 101]⟩, .string x]⟩, .string ⟨#[53, 46, 54, 46, 55, 46, 56]⟩] h0 (fun v _ => v = .bool false) = (Value.bool false = .bool false) := by kernel_rfl
theorem nmd4_17 (x : ByteArray) : ffn Tryz.prog SP [] 1000 [] Tryz.f128 [.agg ⟨[.string ⟨#[99, 111, 111, 107, 105, 101]⟩, .string x]⟩, .string ⟨#[57, 46, 57, 46, 57, 46, 57]⟩] h0 (fun v _ => v = .bool false) = (Value.bool false = .bool false) := by kernel_rfl
theorem nmd5_0 (x : ByteArray) : ffn Tryz.prog SP [] 1000 [] Tryz.f128 [.agg ⟨[.string ⟨#[118, 97, 114, 121]⟩, .string x]⟩, .string ⟨#[118, 105, 97]⟩] h0 (fun v _ => v = .bool false) = (Value.bool false = .bool false) := by kernel_rfl
theorem nmd5_1 (x : ByteArray) : ffn Tryz.prog SP [] 1000 [] Tryz.f128 [.agg ⟨[.string ⟨#[118, 97, 114, 121]⟩, .string x]⟩, .string ⟨#[99, 111, 110, 110, 101, 99, 116, 105, 111, 110]⟩] h0 (fun v _ => v = .bool false) = (Value.bool false = .bool false) := by kernel_rfl
theorem nmd5_2 (x : ByteArray) : ffn Tryz.prog SP [] 1000 [] Tryz.f128 [.agg ⟨[.string ⟨#[118, 97, 114, 121]⟩, .string x]⟩, .string ⟨#[120, 45, 102, 111, 114, 119, 97, 114, 100, 101, 100, 45, 102, 111, 114]⟩] h0 (fun v _ => v = .bool false) = (Value.bool false = .bool false) := by kernel_rfl
theorem nmd5_3 (x : ByteArray) : ffn Tryz.prog SP [] 1000 [] Tryz.f128 [.agg ⟨[.string ⟨#[118, 97, 114, 121]⟩, .string x]⟩, .string ⟨#[120, 45, 102, 111, 114, 119, 97, 114, 100, 101, 100, 45, 104, 111, 115, 116]⟩] h0 (fun v _ => v = .bool false) = (Value.bool false = .bool false) := by kernel_rfl
theorem nmd5_4 (x : ByteArray) : ffn Tryz.prog SP [] 1000 [] Tryz.f128 [.agg ⟨[.string ⟨#[118, 97, 114, 121]⟩, .string x]⟩, .string ⟨#[107, 101, 101, 112, 45, 97, 108, 105, 118, 101]⟩] h0 (fun v _ => v = .bool false) = (Value.bool false = .bool false) := by kernel_rfl
theorem nmd5_5 (x : ByteArray) : ffn Tryz.prog SP [] 1000 [] Tryz.f128 [.agg ⟨[.string ⟨#[118, 97, 114, 121]⟩, .string x]⟩, .string ⟨#[116, 101]⟩] h0 (fun v _ => v = .bool false) = (Value.bool false = .bool false) := by kernel_rfl
theorem nmd5_6 (x : ByteArray) : ffn Tryz.prog SP [] 1000 [] Tryz.f128 [.agg ⟨[.string ⟨#[118, 97, 114, 121]⟩, .string x]⟩, .string ⟨#[116, 114, 97, 105, 108, 101, 114]⟩] h0 (fun v _ => v = .bool false) = (Value.bool false = .bool false) := by kernel_rfl
theorem nmd5_7 (x : ByteArray) : ffn Tryz.prog SP [] 1000 [] Tryz.f128 [.agg ⟨[.string ⟨#[118, 97, 114, 121]⟩, .string x]⟩, .string ⟨#[117, 112, 103, 114, 97, 100, 101]⟩] h0 (fun v _ => v = .bool false) = (Value.bool false = .bool false) := by kernel_rfl
theorem nmd5_8 (x : ByteArray) : ffn Tryz.prog SP [] 1000 [] Tryz.f128 [.agg ⟨[.string ⟨#[118, 97, 114, 121]⟩, .string x]⟩, .string ⟨#[49]⟩] h0 (fun v _ => v = .bool false) = (Value.bool false = .bool false) := by kernel_rfl
theorem nmd5_9 (x : ByteArray) : ffn Tryz.prog SP [] 1000 [] Tryz.f128 [.agg ⟨[.string ⟨#[118, 97, 114, 121]⟩, .string x]⟩, .string ⟨#[120]⟩] h0 (fun v _ => v = .bool false) = (Value.bool false = .bool false) := by kernel_rfl
theorem nmd5_10 (x : ByteArray) : ffn Tryz.prog SP [] 1000 [] Tryz.f128 [.agg ⟨[.string ⟨#[118, 97, 114, 121]⟩, .string x]⟩, .string ⟨#[97]⟩] h0 (fun v _ => v = .bool false) = (Value.bool false = .bool false) := by kernel_rfl
theorem nmd5_11 (x : ByteArray) : ffn Tryz.prog SP [] 1000 [] Tryz.f128 [.agg ⟨[.string ⟨#[118, 97, 114, 121]⟩, .string x]⟩, .string ⟨#[98]⟩] h0 (fun v _ => v = .bool false) = (Value.bool false = .bool false) := by kernel_rfl
theorem nmd5_12 (x : ByteArray) : ffn Tryz.prog SP [] 1000 [] Tryz.f128 [.agg ⟨[.string ⟨#[118, 97, 114, 121]⟩, .string x]⟩, .string ⟨#[120, 45, 111, 110, 101]⟩] h0 (fun v _ => v = .bool false) = (Value.bool false = .bool false) := by kernel_rfl
theorem nmd5_13 (x : ByteArray) : ffn Tryz.prog SP [] 1000 [] Tryz.f128 [.agg ⟨[.string ⟨#[118, 97, 114, 121]⟩, .string x]⟩, .string ⟨#[99, 108, 111, 115, 101]⟩] h0 (fun v _ => v = .bool false) = (Value.bool false = .bool false) := by kernel_rfl
theorem nmd5_14 (x : ByteArray) : ffn Tryz.prog SP [] 1000 [] Tryz.f128 [.agg ⟨[.string ⟨#[118, 97, 114, 121]⟩, .string x]⟩, .string ⟨#[103, 119]⟩] h0 (fun v _ => v = .bool false) = (Value.bool false = .bool false) := by kernel_rfl
theorem nmd5_15 (x : ByteArray) : ffn Tryz.prog SP [] 1000 [] Tryz.f128 [.agg ⟨[.string ⟨#[118, 97, 114, 121]⟩, .string x]⟩, .string ⟨#[49, 46, 50, 46, 51, 46, 52]⟩] h0 (fun v _ => v = .bool false) = (Value.bool false = .bool false) := by kernel_rfl
theorem nmd5_16 (x : ByteArray) : ffn Tryz.prog SP [] 1000 [] Tryz.f128 [.agg ⟨[.string ⟨#[118, 97, 114, 121]⟩, .string x]⟩, .string ⟨#[53, 46, 54, 46, 55, 46, 56]⟩] h0 (fun v _ => v = .bool false) = (Value.bool false = .bool false) := by kernel_rfl
theorem nmd5_17 (x : ByteArray) : ffn Tryz.prog SP [] 1000 [] Tryz.f128 [.agg ⟨[.string ⟨#[118, 97, 114, 121]⟩, .string x]⟩, .string ⟨#[57, 46, 57, 46, 57, 46, 57]⟩] h0 (fun v _ => v = .bool false) = (Value.bool false = .bool false) := by kernel_rfl
theorem nmd6_0 (x : ByteArray) : ffn Tryz.prog SP [] 1000 [] Tryz.f128 [.agg ⟨[.string ⟨#[99, 111, 110, 110, 101, 99, 116, 105, 111, 110]⟩, .string x]⟩, .string ⟨#[118, 105, 97]⟩] h0 (fun v _ => v = .bool false) = (Value.bool false = .bool false) := by kernel_rfl
theorem nmd6_1 (x : ByteArray) : ffn Tryz.prog SP [] 1000 [] Tryz.f128 [.agg ⟨[.string ⟨#[99, 111, 110, 110, 101, 99, 116, 105, 111, 110]⟩, .string x]⟩, .string ⟨#[99, 111, 110, 110, 101, 99, 116, 105, 111, 110]⟩] h0 (fun v _ => v = .bool true) = (Value.bool true = .bool true) := by kernel_rfl
theorem nmd6_2 (x : ByteArray) : ffn Tryz.prog SP [] 1000 [] Tryz.f128 [.agg ⟨[.string ⟨#[99, 111, 110, 110, 101, 99, 116, 105, 111, 110]⟩, .string x]⟩, .string ⟨#[120, 45, 102, 111, 114, 119, 97, 114, 100, 101, 100, 45, 102, 111, 114]⟩] h0 (fun v _ => v = .bool false) = (Value.bool false = .bool false) := by kernel_rfl
theorem nmd6_3 (x : ByteArray) : ffn Tryz.prog SP [] 1000 [] Tryz.f128 [.agg ⟨[.string ⟨#[99, 111, 110, 110, 101, 99, 116, 105, 111, 110]⟩, .string x]⟩, .string ⟨#[120, 45, 102, 111, 114, 119, 97, 114, 100, 101, 100, 45, 104, 111, 115, 116]⟩] h0 (fun v _ => v = .bool false) = (Value.bool false = .bool false) := by kernel_rfl
theorem nmd6_4 (x : ByteArray) : ffn Tryz.prog SP [] 1000 [] Tryz.f128 [.agg ⟨[.string ⟨#[99, 111, 110, 110, 101, 99, 116, 105, 111, 110]⟩, .string x]⟩, .string ⟨#[107, 101, 101, 112, 45, 97, 108, 105, 118, 101]⟩] h0 (fun v _ => v = .bool false) = (Value.bool false = .bool false) := by kernel_rfl
theorem nmd6_5 (x : ByteArray) : ffn Tryz.prog SP [] 1000 [] Tryz.f128 [.agg ⟨[.string ⟨#[99, 111, 110, 110, 101, 99, 116, 105, 111, 110]⟩, .string x]⟩, .string ⟨#[116, 101]⟩] h0 (fun v _ => v = .bool false) = (Value.bool false = .bool false) := by kernel_rfl
theorem nmd6_6 (x : ByteArray) : ffn Tryz.prog SP [] 1000 [] Tryz.f128 [.agg ⟨[.string ⟨#[99, 111, 110, 110, 101, 99, 116, 105, 111, 110]⟩, .string x]⟩, .string ⟨#[116, 114, 97, 105, 108, 101, 114]⟩] h0 (fun v _ => v = .bool false) = (Value.bool false = .bool false) := by kernel_rfl
theorem nmd6_7 (x : ByteArray) : ffn Tryz.prog SP [] 1000 [] Tryz.f128 [.agg ⟨[.string ⟨#[99, 111, 110, 110, 101, 99, 116, 105, 111, 110]⟩, .string x]⟩, .string ⟨#[117, 112, 103, 114, 97, 100, 101]⟩] h0 (fun v _ => v = .bool false) = (Value.bool false = .bool false) := by kernel_rfl
theorem nmd6_8 (x : ByteArray) : ffn Tryz.prog SP [] 1000 [] Tryz.f128 [.agg ⟨[.string ⟨#[99, 111, 110, 110, 101, 99, 116, 105, 111, 110]⟩, .string x]⟩, .string ⟨#[49]⟩] h0 (fun v _ => v = .bool false) = (Value.bool false = .bool false) := by kernel_rfl
theorem nmd6_9 (x : ByteArray) : ffn Tryz.prog SP [] 1000 [] Tryz.f128 [.agg ⟨[.string ⟨#[99, 111, 110, 110, 101, 99, 116, 105, 111, 110]⟩, .string x]⟩, .string ⟨#[120]⟩] h0 (fun v _ => v = .bool false) = (Value.bool false = .bool false) := by kernel_rfl
theorem nmd6_10 (x : ByteArray) : ffn Tryz.prog SP [] 1000 [] Tryz.f128 [.agg ⟨[.string ⟨#[99, 111, 110, 110, 101, 99, 116, 105, 111, 110]⟩, .string x]⟩, .string ⟨#[97]⟩] h0 (fun v _ => v = .bool false) = (Value.bool false = .bool false) := by kernel_rfl
theorem nmd6_11 (x : ByteArray) : ffn Tryz.prog SP [] 1000 [] Tryz.f128 [.agg ⟨[.string ⟨#[99, 111, 110, 110, 101, 99, 116, 105, 111, 110]⟩, .string x]⟩, .string ⟨#[98]⟩] h0 (fun v _ => v = .bool false) = (Value.bool false = .bool false) := by kernel_rfl
theorem nmd6_12 (x : ByteArray) : ffn Tryz.prog SP [] 1000 [] Tryz.f128 [.agg ⟨[.string ⟨#[99, 111, 110, 110, 101, 99, 116, 105, 111, 110]⟩, .string x]⟩, .string ⟨#[120, 45, 111, 110, 101]⟩] h0 (fun v _ => v = .bool false) = (Value.bool false = .bool false) := by kernel_rfl
theorem nmd6_13 (x : ByteArray) : ffn Tryz.prog SP [] 1000 [] Tryz.f128 [.agg ⟨[.string ⟨#[99, 111, 110, 110, 101, 99, 116, 105, 111, 110]⟩, .string x]⟩, .string ⟨#[99, 108, 111, 115, 101]⟩] h0 (fun v _ => v = .bool false) = (Value.bool false = .bool false) := by kernel_rfl
theorem nmd6_14 (x : ByteArray) : ffn Tryz.prog SP [] 1000 [] Tryz.f128 [.agg ⟨[.string ⟨#[99, 111, 110, 110, 101, 99, 116, 105, 111, 110]⟩, .string x]⟩, .string ⟨#[103, 119]⟩] h0 (fun v _ => v = .bool false) = (Value.bool false = .bool false) := by kernel_rfl
theorem nmd6_15 (x : ByteArray) : ffn Tryz.prog SP [] 1000 [] Tryz.f128 [.agg ⟨[.string ⟨#[99, 111, 110, 110, 101, 99, 116, 105, 111, 110]⟩, .string x]⟩, .string ⟨#[49, 46, 50, 46, 51, 46, 52]⟩] h0 (fun v _ => v = .bool false) = (Value.bool false = .bool false) := by kernel_rfl
theorem nmd6_16 (x : ByteArray) : ffn Tryz.prog SP [] 1000 [] Tryz.f128 [.agg ⟨[.string ⟨#[99, 111, 110, 110, 101, 99, 116, 105, 111, 110]⟩, .string x]⟩, .string ⟨#[53, 46, 54, 46, 55, 46, 56]⟩] h0 (fun v _ => v = .bool false) = (Value.bool false = .bool false) := by kernel_rfl
theorem nmd6_17 (x : ByteArray) : ffn Tryz.prog SP [] 1000 [] Tryz.f128 [.agg ⟨[.string ⟨#[99, 111, 110, 110, 101, 99, 116, 105, 111, 110]⟩, .string x]⟩, .string ⟨#[57, 46, 57, 46, 57, 46, 57]⟩] h0 (fun v _ => v = .bool false) = (Value.bool false = .bool false) := by kernel_rfl
theorem nmd7_0 (x : ByteArray) : ffn Tryz.prog SP [] 1000 [] Tryz.f128 [.agg ⟨[.string ⟨#[120, 45, 102, 111, 114, 119, 97, 114, 100, 101, 100, 45, 102, 111, 114]⟩, .string x]⟩, .string ⟨#[118, 105, 97]⟩] h0 (fun v _ => v = .bool false) = (Value.bool false = .bool false) := by kernel_rfl
theorem nmd7_1 (x : ByteArray) : ffn Tryz.prog SP [] 1000 [] Tryz.f128 [.agg ⟨[.string ⟨#[120, 45, 102, 111, 114, 119, 97, 114, 100, 101, 100, 45, 102, 111, 114]⟩, .string x]⟩, .string ⟨#[99, 111, 110, 110, 101, 99, 116, 105, 111, 110]⟩] h0 (fun v _ => v = .bool false) = (Value.bool false = .bool false) := by kernel_rfl
theorem nmd7_2 (x : ByteArray) : ffn Tryz.prog SP [] 1000 [] Tryz.f128 [.agg ⟨[.string ⟨#[120, 45, 102, 111, 114, 119, 97, 114, 100, 101, 100, 45, 102, 111, 114]⟩, .string x]⟩, .string ⟨#[120, 45, 102, 111, 114, 119, 97, 114, 100, 101, 100, 45, 102, 111, 114]⟩] h0 (fun v _ => v = .bool true) = (Value.bool true = .bool true) := by kernel_rfl
theorem nmd7_3 (x : ByteArray) : ffn Tryz.prog SP [] 1000 [] Tryz.f128 [.agg ⟨[.string ⟨#[120, 45, 102, 111, 114, 119, 97, 114, 100, 101, 100, 45, 102, 111, 114]⟩, .string x]⟩, .string ⟨#[120, 45, 102, 111, 114, 119, 97, 114, 100, 101, 100, 45, 104, 111, 115, 116]⟩] h0 (fun v _ => v = .bool false) = (Value.bool false = .bool false) := by kernel_rfl
theorem nmd7_4 (x : ByteArray) : ffn Tryz.prog SP [] 1000 [] Tryz.f128 [.agg ⟨[.string ⟨#[120, 45, 102, 111, 114, 119, 97, 114, 100, 101, 100, 45, 102, 111, 114]⟩, .string x]⟩, .string ⟨#[107, 101, 101, 112, 45, 97, 108, 105, 118, 101]⟩] h0 (fun v _ => v = .bool false) = (Value.bool false = .bool false) := by kernel_rfl
theorem nmd7_5 (x : ByteArray) : ffn Tryz.prog SP [] 1000 [] Tryz.f128 [.agg ⟨[.string ⟨#[120, 45, 102, 111, 114, 119, 97, 114, 100, 101, 100, 45, 102, 111, 114]⟩, .string x]⟩, .string ⟨#[116, 101]⟩] h0 (fun v _ => v = .bool false) = (Value.bool false = .bool false) := by kernel_rfl
theorem nmd7_6 (x : ByteArray) : ffn Tryz.prog SP [] 1000 [] Tryz.f128 [.agg ⟨[.string ⟨#[120, 45, 102, 111, 114, 119, 97, 114, 100, 101, 100, 45, 102, 111, 114]⟩, .string x]⟩, .string ⟨#[116, 114, 97, 105, 108, 101, 114]⟩] h0 (fun v _ => v = .bool false) = (Value.bool false = .bool false) := by kernel_rfl
theorem nmd7_7 (x : ByteArray) : ffn Tryz.prog SP [] 1000 [] Tryz.f128 [.agg ⟨[.string ⟨#[120, 45, 102, 111, 114, 119, 97, 114, 100, 101, 100, 45, 102, 111, 114]⟩, .string x]⟩, .string ⟨#[117, 112, 103, 114, 97, 100, 101]⟩] h0 (fun v _ => v = .bool false) = (Value.bool false = .bool false) := by kernel_rfl
theorem nmd7_8 (x : ByteArray) : ffn Tryz.prog SP [] 1000 [] Tryz.f128 [.agg ⟨[.string ⟨#[120, 45, 102, 111, 114, 119, 97, 114, 100, 101, 100, 45, 102, 111, 114]⟩, .string x]⟩, .string ⟨#[49]⟩] h0 (fun v _ => v = .bool false) = (Value.bool false = .bool false) := by kernel_rfl
theorem nmd7_9 (x : ByteArray) : ffn Tryz.prog SP [] 1000 [] Tryz.f128 [.agg ⟨[.string ⟨#[120, 45, 102, 111, 114, 119, 97, 114, 100, 101, 100, 45, 102, 111, 114]⟩, .string x]⟩, .string ⟨#[120]⟩] h0 (fun v _ => v = .bool false) = (Value.bool false = .bool false) := by kernel_rfl
theorem nmd7_10 (x : ByteArray) : ffn Tryz.prog SP [] 1000 [] Tryz.f128 [.agg ⟨[.string ⟨#[120, 45, 102, 111, 114, 119, 97, 114, 100, 101, 100, 45, 102, 111, 114]⟩, .string x]⟩, .string ⟨#[97]⟩] h0 (fun v _ => v = .bool false) = (Value.bool false = .bool false) := by kernel_rfl
theorem nmd7_11 (x : ByteArray) : ffn Tryz.prog SP [] 1000 [] Tryz.f128 [.agg ⟨[.string ⟨#[120, 45, 102, 111, 114, 119, 97, 114, 100, 101, 100, 45, 102, 111, 114]⟩, .string x]⟩, .string ⟨#[98]⟩] h0 (fun v _ => v = .bool false) = (Value.bool false = .bool false) := by kernel_rfl
theorem nmd7_12 (x : ByteArray) : ffn Tryz.prog SP [] 1000 [] Tryz.f128 [.agg ⟨[.string ⟨#[120, 45, 102, 111, 114, 119, 97, 114, 100, 101, 100, 45, 102, 111, 114]⟩, .string x]⟩, .string ⟨#[120, 45, 111, 110, 101]⟩] h0 (fun v _ => v = .bool false) = (Value.bool false = .bool false) := by kernel_rfl
theorem nmd7_13 (x : ByteArray) : ffn Tryz.prog SP [] 1000 [] Tryz.f128 [.agg ⟨[.string ⟨#[120, 45, 102, 111, 114, 119, 97, 114, 100, 101, 100, 45, 102, 111, 114]⟩, .string x]⟩, .string ⟨#[99, 108, 111, 115, 101]⟩] h0 (fun v _ => v = .bool false) = (Value.bool false = .bool false) := by kernel_rfl
theorem nmd7_14 (x : ByteArray) : ffn Tryz.prog SP [] 1000 [] Tryz.f128 [.agg ⟨[.string ⟨#[120, 45, 102, 111, 114, 119, 97, 114, 100, 101, 100, 45, 102, 111, 114]⟩, .string x]⟩, .string ⟨#[103, 119]⟩] h0 (fun v _ => v = .bool false) = (Value.bool false = .bool false) := by kernel_rfl
theorem nmd7_15 (x : ByteArray) : ffn Tryz.prog SP [] 1000 [] Tryz.f128 [.agg ⟨[.string ⟨#[120, 45, 102, 111, 114, 119, 97, 114, 100, 101, 100, 45, 102, 111, 114]⟩, .string x]⟩, .string ⟨#[49, 46, 50, 46, 51, 46, 52]⟩] h0 (fun v _ => v = .bool false) = (Value.bool false = .bool false) := by kernel_rfl
theorem nmd7_16 (x : ByteArray) : ffn Tryz.prog SP [] 1000 [] Tryz.f128 [.agg ⟨[.string ⟨#[120, 45, 102, 111, 114, 119, 97, 114, 100, 101, 100, 45, 102, 111, 114]⟩, .string x]⟩, .string ⟨#[53, 46, 54, 46, 55, 46, 56]⟩] h0 (fun v _ => v = .bool false) = (Value.bool false = .bool false) := by kernel_rfl
theorem nmd7_17 (x : ByteArray) : ffn Tryz.prog SP [] 1000 [] Tryz.f128 [.agg ⟨[.string ⟨#[120, 45, 102, 111, 114, 119, 97, 114, 100, 101, 100, 45, 102, 111, 114]⟩, .string x]⟩, .string ⟨#[57, 46, 57, 46, 57, 46, 57]⟩] h0 (fun v _ => v = .bool false) = (Value.bool false = .bool false) := by kernel_rfl
theorem nmd8_0 (x : ByteArray) : ffn Tryz.prog SP [] 1000 [] Tryz.f128 [.agg ⟨[.string ⟨#[118, 105, 97]⟩, .string x]⟩, .string ⟨#[118, 105, 97]⟩] h0 (fun v _ => v = .bool true) = (Value.bool true = .bool true) := by kernel_rfl
theorem nmd8_1 (x : ByteArray) : ffn Tryz.prog SP [] 1000 [] Tryz.f128 [.agg ⟨[.string ⟨#[118, 105, 97]⟩, .string x]⟩, .string ⟨#[99, 111, 110, 110, 101, 99, 116, 105, 111, 110]⟩] h0 (fun v _ => v = .bool false) = (Value.bool false = .bool false) := by kernel_rfl
theorem nmd8_2 (x : ByteArray) : ffn Tryz.prog SP [] 1000 [] Tryz.f128 [.agg ⟨[.string ⟨#[118, 105, 97]⟩, .string x]⟩, .string ⟨#[120, 45, 102, 111, 114, 119, 97, 114, 100, 101, 100, 45, 102, 111, 114]⟩] h0 (fun v _ => v = .bool false) = (Value.bool false = .bool false) := by kernel_rfl
theorem nmd8_3 (x : ByteArray) : ffn Tryz.prog SP [] 1000 [] Tryz.f128 [.agg ⟨[.string ⟨#[118, 105, 97]⟩, .string x]⟩, .string ⟨#[120, 45, 102, 111, 114, 119, 97, 114, 100, 101, 100, 45, 104, 111, 115, 116]⟩] h0 (fun v _ => v = .bool false) = (Value.bool false = .bool false) := by kernel_rfl
theorem nmd8_4 (x : ByteArray) : ffn Tryz.prog SP [] 1000 [] Tryz.f128 [.agg ⟨[.string ⟨#[118, 105, 97]⟩, .string x]⟩, .string ⟨#[107, 101, 101, 112, 45, 97, 108, 105, 118, 101]⟩] h0 (fun v _ => v = .bool false) = (Value.bool false = .bool false) := by kernel_rfl
theorem nmd8_5 (x : ByteArray) : ffn Tryz.prog SP [] 1000 [] Tryz.f128 [.agg ⟨[.string ⟨#[118, 105, 97]⟩, .string x]⟩, .string ⟨#[116, 101]⟩] h0 (fun v _ => v = .bool false) = (Value.bool false = .bool false) := by kernel_rfl
theorem nmd8_6 (x : ByteArray) : ffn Tryz.prog SP [] 1000 [] Tryz.f128 [.agg ⟨[.string ⟨#[118, 105, 97]⟩, .string x]⟩, .string ⟨#[116, 114, 97, 105, 108, 101, 114]⟩] h0 (fun v _ => v = .bool false) = (Value.bool false = .bool false) := by kernel_rfl
theorem nmd8_7 (x : ByteArray) : ffn Tryz.prog SP [] 1000 [] Tryz.f128 [.agg ⟨[.string ⟨#[118, 105, 97]⟩, .string x]⟩, .string ⟨#[117, 112, 103, 114, 97, 100, 101]⟩] h0 (fun v _ => v = .bool false) = (Value.bool false = .bool false) := by kernel_rfl
theorem nmd8_8 (x : ByteArray) : ffn Tryz.prog SP [] 1000 [] Tryz.f128 [.agg ⟨[.string ⟨#[118, 105, 97]⟩, .string x]⟩, .string ⟨#[49]⟩] h0 (fun v _ => v = .bool false) = (Value.bool false = .bool false) := by kernel_rfl
theorem nmd8_9 (x : ByteArray) : ffn Tryz.prog SP [] 1000 [] Tryz.f128 [.agg ⟨[.string ⟨#[118, 105, 97]⟩, .string x]⟩, .string ⟨#[120]⟩] h0 (fun v _ => v = .bool false) = (Value.bool false = .bool false) := by kernel_rfl
theorem nmd8_10 (x : ByteArray) : ffn Tryz.prog SP [] 1000 [] Tryz.f128 [.agg ⟨[.string ⟨#[118, 105, 97]⟩, .string x]⟩, .string ⟨#[97]⟩] h0 (fun v _ => v = .bool false) = (Value.bool false = .bool false) := by kernel_rfl
theorem nmd8_11 (x : ByteArray) : ffn Tryz.prog SP [] 1000 [] Tryz.f128 [.agg ⟨[.string ⟨#[118, 105, 97]⟩, .string x]⟩, .string ⟨#[98]⟩] h0 (fun v _ => v = .bool false) = (Value.bool false = .bool false) := by kernel_rfl
theorem nmd8_12 (x : ByteArray) : ffn Tryz.prog SP [] 1000 [] Tryz.f128 [.agg ⟨[.string ⟨#[118, 105, 97]⟩, .string x]⟩, .string ⟨#[120, 45, 111, 110, 101]⟩] h0 (fun v _ => v = .bool false) = (Value.bool false = .bool false) := by kernel_rfl
theorem nmd8_13 (x : ByteArray) : ffn Tryz.prog SP [] 1000 [] Tryz.f128 [.agg ⟨[.string ⟨#[118, 105, 97]⟩, .string x]⟩, .string ⟨#[99, 108, 111, 115, 101]⟩] h0 (fun v _ => v = .bool false) = (Value.bool false = .bool false) := by kernel_rfl
theorem nmd8_14 (x : ByteArray) : ffn Tryz.prog SP [] 1000 [] Tryz.f128 [.agg ⟨[.string ⟨#[118, 105, 97]⟩, .string x]⟩, .string ⟨#[103, 119]⟩] h0 (fun v _ => v = .bool false) = (Value.bool false = .bool false) := by kernel_rfl
theorem nmd8_15 (x : ByteArray) : ffn Tryz.prog SP [] 1000 [] Tryz.f128 [.agg ⟨[.string ⟨#[118, 105, 97]⟩, .string x]⟩, .string ⟨#[49, 46, 50, 46, 51, 46, 52]⟩] h0 (fun v _ => v = .bool false) = (Value.bool false = .bool false) := by kernel_rfl
theorem nmd8_16 (x : ByteArray) : ffn Tryz.prog SP [] 1000 [] Tryz.f128 [.agg ⟨[.string ⟨#[118, 105, 97]⟩, .string x]⟩, .string ⟨#[53, 46, 54, 46, 55, 46, 56]⟩] h0 (fun v _ => v = .bool false) = (Value.bool false = .bool false) := by kernel_rfl
theorem nmd8_17 (x : ByteArray) : ffn Tryz.prog SP [] 1000 [] Tryz.f128 [.agg ⟨[.string ⟨#[118, 105, 97]⟩, .string x]⟩, .string ⟨#[57, 46, 57, 46, 57, 46, 57]⟩] h0 (fun v _ => v = .bool false) = (Value.bool false = .bool false) := by kernel_rfl
theorem nmd9_0 (x : ByteArray) : ffn Tryz.prog SP [] 1000 [] Tryz.f128 [.agg ⟨[.string ⟨#[120, 45, 102, 111, 114, 119, 97, 114, 100, 101, 100, 45, 104, 111, 115, 116]⟩, .string x]⟩, .string ⟨#[118, 105, 97]⟩] h0 (fun v _ => v = .bool false) = (Value.bool false = .bool false) := by kernel_rfl
theorem nmd9_1 (x : ByteArray) : ffn Tryz.prog SP [] 1000 [] Tryz.f128 [.agg ⟨[.string ⟨#[120, 45, 102, 111, 114, 119, 97, 114, 100, 101, 100, 45, 104, 111, 115, 116]⟩, .string x]⟩, .string ⟨#[99, 111, 110, 110, 101, 99, 116, 105, 111, 110]⟩] h0 (fun v _ => v = .bool false) = (Value.bool false = .bool false) := by kernel_rfl
theorem nmd9_2 (x : ByteArray) : ffn Tryz.prog SP [] 1000 [] Tryz.f128 [.agg ⟨[.string ⟨#[120, 45, 102, 111, 114, 119, 97, 114, 100, 101, 100, 45, 104, 111, 115, 116]⟩, .string x]⟩, .string ⟨#[120, 45, 102, 111, 114, 119, 97, 114, 100, 101, 100, 45, 102, 111, 114]⟩] h0 (fun v _ => v = .bool false) = (Value.bool false = .bool false) := by kernel_rfl
theorem nmd9_3 (x : ByteArray) : ffn Tryz.prog SP [] 1000 [] Tryz.f128 [.agg ⟨[.string ⟨#[120, 45, 102, 111, 114, 119, 97, 114, 100, 101, 100, 45, 104, 111, 115, 116]⟩, .string x]⟩, .string ⟨#[120, 45, 102, 111, 114, 119, 97, 114, 100, 101, 100, 45, 104, 111, 115, 116]⟩] h0 (fun v _ => v = .bool true) = (Value.bool true = .bool true) := by kernel_rfl
theorem nmd9_4 (x : ByteArray) : ffn Tryz.prog SP [] 1000 [] Tryz.f128 [.agg ⟨[.string ⟨#[120, 45, 102, 111, 114, 119, 97, 114, 100, 101, 100, 45, 104, 111, 115, 116]⟩, .string x]⟩, .string ⟨#[107, 101, 101, 112, 45, 97, 108, 105, 118, 101]⟩] h0 (fun v _ => v = .bool false) = (Value.bool false = .bool false) := by kernel_rfl
theorem nmd9_5 (x : ByteArray) : ffn Tryz.prog SP [] 1000 [] Tryz.f128 [.agg ⟨[.string ⟨#[120, 45, 102, 111, 114, 119, 97, 114, 100, 101, 100, 45, 104, 111, 115, 116]⟩, .string x]⟩, .string ⟨#[116, 101]⟩] h0 (fun v _ => v = .bool false) = (Value.bool false = .bool false) := by kernel_rfl
theorem nmd9_6 (x : ByteArray) : ffn Tryz.prog SP [] 1000 [] Tryz.f128 [.agg ⟨[.string ⟨#[120, 45, 102, 111, 114, 119, 97, 114, 100, 101, 100, 45, 104, 111, 115, 116]⟩, .string x]⟩, .string ⟨#[116, 114, 97, 105, 108, 101, 114]⟩] h0 (fun v _ => v = .bool false) = (Value.bool false = .bool false) := by kernel_rfl
theorem nmd9_7 (x : ByteArray) : ffn Tryz.prog SP [] 1000 [] Tryz.f128 [.agg ⟨[.string ⟨#[120, 45, 102, 111, 114, 119, 97, 114, 100, 101, 100, 45, 104, 111, 115, 116]⟩, .string x]⟩, .string ⟨#[117, 112, 103, 114, 97, 100, 101]⟩] h0 (fun v _ => v = .bool false) = (Value.bool false = .bool false) := by kernel_rfl
theorem nmd9_8 (x : ByteArray) : ffn Tryz.prog SP [] 1000 [] Tryz.f128 [.agg ⟨[.string ⟨#[120, 45, 102, 111, 114, 119, 97, 114, 100, 101, 100, 45, 104, 111, 115, 116]⟩, .string x]⟩, .string ⟨#[49]⟩] h0 (fun v _ => v = .bool false) = (Value.bool false = .bool false) := by kernel_rfl
theorem nmd9_9 (x : ByteArray) : ffn Tryz.prog SP [] 1000 [] Tryz.f128 [.agg ⟨[.string ⟨#[120, 45, 102, 111, 114, 119, 97, 114, 100, 101, 100, 45, 104, 111, 115, 116]⟩, .string x]⟩, .string ⟨#[120]⟩] h0 (fun v _ => v = .bool false) = (Value.bool false = .bool false) := by kernel_rfl
theorem nmd9_10 (x : ByteArray) : ffn Tryz.prog SP [] 1000 [] Tryz.f128 [.agg ⟨[.string ⟨#[120, 45, 102, 111, 114, 119, 97, 114, 100, 101, 100, 45, 104, 111, 115, 116]⟩, .string x]⟩, .string ⟨#[97]⟩] h0 (fun v _ => v = .bool false) = (Value.bool false = .bool false) := by kernel_rfl
theorem nmd9_11 (x : ByteArray) : ffn Tryz.prog SP [] 1000 [] Tryz.f128 [.agg ⟨[.string ⟨#[120, 45, 102, 111, 114, 119, 97, 114, 100, 101, 100, 45, 104, 111, 115, 116]⟩, .string x]⟩, .string ⟨#[98]⟩] h0 (fun v _ => v = .bool false) = (Value.bool false = .bool false) := by kernel_rfl
theorem nmd9_12 (x : ByteArray) : ffn Tryz.prog SP [] 1000 [] Tryz.f128 [.agg ⟨[.string ⟨#[120, 45, 102, 111, 114, 119, 97, 114, 100, 101, 100, 45, 104, 111, 115, 116]⟩, .string x]⟩, .string ⟨#[120, 45, 111, 110, 101]⟩] h0 (fun v _ => v = .bool false) = (Value.bool false = .bool false) := by kernel_rfl
theorem nmd9_13 (x : ByteArray) : ffn Tryz.prog SP [] 1000 [] Tryz.f128 [.agg ⟨[.string ⟨#[120, 45, 102, 111, 114, 119, 97, 114, 100, 101, 100, 45, 104, 111, 115, 116]⟩, .string x]⟩, .string ⟨#[99, 108, 111, 115, 101]⟩] h0 (fun v _ => v = .bool false) = (Value.bool false = .bool false) := by kernel_rfl
theorem nmd9_14 (x : ByteArray) : ffn Tryz.prog SP [] 1000 [] Tryz.f128 [.agg ⟨[.string ⟨#[120, 45, 102, 111, 114, 119, 97, 114, 100, 101, 100, 45, 104, 111, 115, 116]⟩, .string x]⟩, .string ⟨#[103, 119]⟩] h0 (fun v _ => v = .bool false) = (Value.bool false = .bool false) := by kernel_rfl
theorem nmd9_15 (x : ByteArray) : ffn Tryz.prog SP [] 1000 [] Tryz.f128 [.agg ⟨[.string ⟨#[120, 45, 102, 111, 114, 119, 97, 114, 100, 101, 100, 45, 104, 111, 115, 116]⟩, .string x]⟩, .string ⟨#[49, 46, 50, 46, 51, 46, 52]⟩] h0 (fun v _ => v = .bool false) = (Value.bool false = .bool false) := by kernel_rfl
theorem nmd9_16 (x : ByteArray) : ffn Tryz.prog SP [] 1000 [] Tryz.f128 [.agg ⟨[.string ⟨#[120, 45, 102, 111, 114, 119, 97, 114, 100, 101, 100, 45, 104, 111, 115, 116]⟩, .string x]⟩, .string ⟨#[53, 46, 54, 46, 55, 46, 56]⟩] h0 (fun v _ => v = .bool false) = (Value.bool false = .bool false) := by kernel_rfl
theorem nmd9_17 (x : ByteArray) : ffn Tryz.prog SP [] 1000 [] Tryz.f128 [.agg ⟨[.string ⟨#[120, 45, 102, 111, 114, 119, 97, 114, 100, 101, 100, 45, 104, 111, 115, 116]⟩, .string x]⟩, .string ⟨#[57, 46, 57, 46, 57, 46, 57]⟩] h0 (fun v _ => v = .bool false) = (Value.bool false = .bool false) := by kernel_rfl
theorem nmd10_0 (x : ByteArray) : ffn Tryz.prog SP [] 1000 [] Tryz.f128 [.agg ⟨[.string ⟨#[116, 101]⟩, .string x]⟩, .string ⟨#[118, 105, 97]⟩] h0 (fun v _ => v = .bool false) = (Value.bool false = .bool false) := by kernel_rfl
theorem nmd10_1 (x : ByteArray) : ffn Tryz.prog SP [] 1000 [] Tryz.f128 [.agg ⟨[.string ⟨#[116, 101]⟩, .string x]⟩, .string ⟨#[99, 111, 110, 110, 101, 99, 116, 105, 111, 110]⟩] h0 (fun v _ => v = .bool false) = (Value.bool false = .bool false) := by kernel_rfl
theorem nmd10_2 (x : ByteArray) : ffn Tryz.prog SP [] 1000 [] Tryz.f128 [.agg ⟨[.string ⟨#[116, 101]⟩, .string x]⟩, .string ⟨#[120, 45, 102, 111, 114, 119, 97, 114, 100, 101, 100, 45, 102, 111, 114]⟩] h0 (fun v _ => v = .bool false) = (Value.bool false = .bool false) := by kernel_rfl
theorem nmd10_3 (x : ByteArray) : ffn Tryz.prog SP [] 1000 [] Tryz.f128 [.agg ⟨[.string ⟨#[116, 101]⟩, .string x]⟩, .string ⟨#[120, 45, 102, 111, 114, 119, 97, 114, 100, 101, 100, 45, 104, 111, 115, 116]⟩] h0 (fun v _ => v = .bool false) = (Value.bool false = .bool false) := by kernel_rfl
theorem nmd10_4 (x : ByteArray) : ffn Tryz.prog SP [] 1000 [] Tryz.f128 [.agg ⟨[.string ⟨#[116, 101]⟩, .string x]⟩, .string ⟨#[107, 101, 101, 112, 45, 97, 108, 105, 118, 101]⟩] h0 (fun v _ => v = .bool false) = (Value.bool false = .bool false) := by kernel_rfl
theorem nmd10_5 (x : ByteArray) : ffn Tryz.prog SP [] 1000 [] Tryz.f128 [.agg ⟨[.string ⟨#[116, 101]⟩, .string x]⟩, .string ⟨#[116, 101]⟩] h0 (fun v _ => v = .bool true) = (Value.bool true = .bool true) := by kernel_rfl
theorem nmd10_6 (x : ByteArray) : ffn Tryz.prog SP [] 1000 [] Tryz.f128 [.agg ⟨[.string ⟨#[116, 101]⟩, .string x]⟩, .string ⟨#[116, 114, 97, 105, 108, 101, 114]⟩] h0 (fun v _ => v = .bool false) = (Value.bool false = .bool false) := by kernel_rfl
theorem nmd10_7 (x : ByteArray) : ffn Tryz.prog SP [] 1000 [] Tryz.f128 [.agg ⟨[.string ⟨#[116, 101]⟩, .string x]⟩, .string ⟨#[117, 112, 103, 114, 97, 100, 101]⟩] h0 (fun v _ => v = .bool false) = (Value.bool false = .bool false) := by kernel_rfl
theorem nmd10_8 (x : ByteArray) : ffn Tryz.prog SP [] 1000 [] Tryz.f128 [.agg ⟨[.string ⟨#[116, 101]⟩, .string x]⟩, .string ⟨#[49]⟩] h0 (fun v _ => v = .bool false) = (Value.bool false = .bool false) := by kernel_rfl
theorem nmd10_9 (x : ByteArray) : ffn Tryz.prog SP [] 1000 [] Tryz.f128 [.agg ⟨[.string ⟨#[116, 101]⟩, .string x]⟩, .string ⟨#[120]⟩] h0 (fun v _ => v = .bool false) = (Value.bool false = .bool false) := by kernel_rfl
theorem nmd10_10 (x : ByteArray) : ffn Tryz.prog SP [] 1000 [] Tryz.f128 [.agg ⟨[.string ⟨#[116, 101]⟩, .string x]⟩, .string ⟨#[97]⟩] h0 (fun v _ => v = .bool false) = (Value.bool false = .bool false) := by kernel_rfl
theorem nmd10_11 (x : ByteArray) : ffn Tryz.prog SP [] 1000 [] Tryz.f128 [.agg ⟨[.string ⟨#[116, 101]⟩, .string x]⟩, .string ⟨#[98]⟩] h0 (fun v _ => v = .bool false) = (Value.bool false = .bool false) := by kernel_rfl
theorem nmd10_12 (x : ByteArray) : ffn Tryz.prog SP [] 1000 [] Tryz.f128 [.agg ⟨[.string ⟨#[116, 101]⟩, .string x]⟩, .string ⟨#[120, 45, 111, 110, 101]⟩] h0 (fun v _ => v = .bool false) = (Value.bool false = .bool false) := by kernel_rfl
theorem nmd10_13 (x : ByteArray) : ffn Tryz.prog SP [] 1000 [] Tryz.f128 [.agg ⟨[.string ⟨#[116, 101]⟩, .string x]⟩, .string ⟨#[99, 108, 111, 115, 101]⟩] h0 (fun v _ => v = .bool false) = (Value.bool false = .bool false) := by kernel_rfl
theorem nmd10_14 (x : ByteArray) : ffn Tryz.prog SP [] 1000 [] Tryz.f128 [.agg ⟨[.string ⟨#[116, 101]⟩, .string x]⟩, .string ⟨#[103, 119]⟩] h0 (fun v _ => v = .bool false) = (Value.bool false = .bool false) := by kernel_rfl
theorem nmd10_15 (x : ByteArray) : ffn Tryz.prog SP [] 1000 [] Tryz.f128 [.agg ⟨[.string ⟨#[116, 101]⟩, .string x]⟩, .string ⟨#[49, 46, 50, 46, 51, 46, 52]⟩] h0 (fun v _ => v = .bool false) = (Value.bool false = .bool false) := by kernel_rfl
theorem nmd10_16 (x : ByteArray) : ffn Tryz.prog SP [] 1000 [] Tryz.f128 [.agg ⟨[.string ⟨#[116, 101]⟩, .string x]⟩, .string ⟨#[53, 46, 54, 46, 55, 46, 56]⟩] h0 (fun v _ => v = .bool false) = (Value.bool false = .bool false) := by kernel_rfl
theorem nmd10_17 (x : ByteArray) : ffn Tryz.prog SP [] 1000 [] Tryz.f128 [.agg ⟨[.string ⟨#[116, 101]⟩, .string x]⟩, .string ⟨#[57, 46, 57, 46, 57, 46, 57]⟩] h0 (fun v _ => v = .bool false) = (Value.bool false = .bool false) := by kernel_rfl
theorem nmd11_0 (x : ByteArray) : ffn Tryz.prog SP [] 1000 [] Tryz.f128 [.agg ⟨[.string ⟨#[103, 97, 116, 101, 45, 57]⟩, .string x]⟩, .string ⟨#[118, 105, 97]⟩] h0 (fun v _ => v = .bool false) = (Value.bool false = .bool false) := by kernel_rfl
theorem nmd11_1 (x : ByteArray) : ffn Tryz.prog SP [] 1000 [] Tryz.f128 [.agg ⟨[.string ⟨#[103, 97, 116, 101, 45, 57]⟩, .string x]⟩, .string ⟨#[99, 111, 110, 110, 101, 99, 116, 105, 111, 110]⟩] h0 (fun v _ => v = .bool false) = (Value.bool false = .bool false) := by kernel_rfl
theorem nmd11_2 (x : ByteArray) : ffn Tryz.prog SP [] 1000 [] Tryz.f128 [.agg ⟨[.string ⟨#[103, 97, 116, 101, 45, 57]⟩, .string x]⟩, .string ⟨#[120, 45, 102, 111, 114, 119, 97, 114, 100, 101, 100, 45, 102, 111, 114]⟩] h0 (fun v _ => v = .bool false) = (Value.bool false = .bool false) := by kernel_rfl
theorem nmd11_3 (x : ByteArray) : ffn Tryz.prog SP [] 1000 [] Tryz.f128 [.agg ⟨[.string ⟨#[103, 97, 116, 101, 45, 57]⟩, .string x]⟩, .string ⟨#[120, 45, 102, 111, 114, 119, 97, 114, 100, 101, 100, 45, 104, 111, 115, 116]⟩] h0 (fun v _ => v = .bool false) = (Value.bool false = .bool false) := by kernel_rfl
theorem nmd11_4 (x : ByteArray) : ffn Tryz.prog SP [] 1000 [] Tryz.f128 [.agg ⟨[.string ⟨#[103, 97, 116, 101, 45, 57]⟩, .string x]⟩, .string ⟨#[107, 101, 101, 112, 45, 97, 108, 105, 118, 101]⟩] h0 (fun v _ => v = .bool false) = (Value.bool false = .bool false) := by kernel_rfl
theorem nmd11_5 (x : ByteArray) : ffn Tryz.prog SP [] 1000 [] Tryz.f128 [.agg ⟨[.string ⟨#[103, 97, 116, 101, 45, 57]⟩, .string x]⟩, .string ⟨#[116, 101]⟩] h0 (fun v _ => v = .bool false) = (Value.bool false = .bool false) := by kernel_rfl
theorem nmd11_6 (x : ByteArray) : ffn Tryz.prog SP [] 1000 [] Tryz.f128 [.agg ⟨[.string ⟨#[103, 97, 116, 101, 45, 57]⟩, .string x]⟩, .string ⟨#[116, 114, 97, 105, 108, 101, 114]⟩] h0 (fun v _ => v = .bool false) = (Value.bool false = .bool false) := by kernel_rfl
theorem nmd11_7 (x : ByteArray) : ffn Tryz.prog SP [] 1000 [] Tryz.f128 [.agg ⟨[.string ⟨#[103, 97, 116, 101, 45, 57]⟩, .string x]⟩, .string ⟨#[117, 112, 103, 114, 97, 100, 101]⟩] h0 (fun v _ => v = .bool false) = (Value.bool false = .bool false) := by kernel_rfl
theorem nmd11_8 (x : ByteArray) : ffn Tryz.prog SP [] 1000 [] Tryz.f128 [.agg ⟨[.string ⟨#[103, 97, 116, 101, 45, 57]⟩, .string x]⟩, .string ⟨#[49]⟩] h0 (fun v _ => v = .bool false) = (Value.bool false = .bool false) := by kernel_rfl
theorem nmd11_9 (x : ByteArray) : ffn Tryz.prog SP [] 1000 [] Tryz.f128 [.agg ⟨[.string ⟨#[103, 97, 116, 101, 45, 57]⟩, .string x]⟩, .string ⟨#[120]⟩] h0 (fun v _ => v = .bool false) = (Value.bool false = .bool false) := by kernel_rfl
theorem nmd11_10 (x : ByteArray) : ffn Tryz.prog SP [] 1000 [] Tryz.f128 [.agg ⟨[.string ⟨#[103, 97, 116, 101, 45, 57]⟩, .string x]⟩, .string ⟨#[97]⟩] h0 (fun v _ => v = .bool false) = (Value.bool false = .bool false) := by kernel_rfl
theorem nmd11_11 (x : ByteArray) : ffn Tryz.prog SP [] 1000 [] Tryz.f128 [.agg ⟨[.string ⟨#[103, 97, 116, 101, 45, 57]⟩, .string x]⟩, .string ⟨#[98]⟩] h0 (fun v _ => v = .bool false) = (Value.bool false = .bool false) := by kernel_rfl
theorem nmd11_12 (x : ByteArray) : ffn Tryz.prog SP [] 1000 [] Tryz.f128 [.agg ⟨[.string ⟨#[103, 97, 116, 101, 45, 57]⟩, .string x]⟩, .string ⟨#[120, 45, 111, 110, 101]⟩] h0 (fun v _ => v = .bool false) = (Value.bool false = .bool false) := by kernel_rfl
theorem nmd11_13 (x : ByteArray) : ffn Tryz.prog SP [] 1000 [] Tryz.f128 [.agg ⟨[.string ⟨#[103, 97, 116, 101, 45, 57]⟩, .string x]⟩, .string ⟨#[99, 108, 111, 115, 101]⟩] h0 (fun v _ => v = .bool false) = (Value.bool false = .bool false) := by kernel_rfl
theorem nmd11_14 (x : ByteArray) : ffn Tryz.prog SP [] 1000 [] Tryz.f128 [.agg ⟨[.string ⟨#[103, 97, 116, 101, 45, 57]⟩, .string x]⟩, .string ⟨#[103, 119]⟩] h0 (fun v _ => v = .bool false) = (Value.bool false = .bool false) := by kernel_rfl
theorem nmd11_15 (x : ByteArray) : ffn Tryz.prog SP [] 1000 [] Tryz.f128 [.agg ⟨[.string ⟨#[103, 97, 116, 101, 45, 57]⟩, .string x]⟩, .string ⟨#[49, 46, 50, 46, 51, 46, 52]⟩] h0 (fun v _ => v = .bool false) = (Value.bool false = .bool false) := by kernel_rfl
theorem nmd11_16 (x : ByteArray) : ffn Tryz.prog SP [] 1000 [] Tryz.f128 [.agg ⟨[.string ⟨#[103, 97, 116, 101, 45, 57]⟩, .string x]⟩, .string ⟨#[53, 46, 54, 46, 55, 46, 56]⟩] h0 (fun v _ => v = .bool false) = (Value.bool false = .bool false) := by kernel_rfl
theorem nmd11_17 (x : ByteArray) : ffn Tryz.prog SP [] 1000 [] Tryz.f128 [.agg ⟨[.string ⟨#[103, 97, 116, 101, 45, 57]⟩, .string x]⟩, .string ⟨#[57, 46, 57, 46, 57, 46, 57]⟩] h0 (fun v _ => v = .bool false) = (Value.bool false = .bool false) := by kernel_rfl
theorem nmd12_0 (x : ByteArray) : ffn Tryz.prog SP [] 1000 [] Tryz.f128 [.agg ⟨[.string ⟨#[71, 69, 84]⟩, .string x]⟩, .string ⟨#[118, 105, 97]⟩] h0 (fun v _ => v = .bool false) = (Value.bool false = .bool false) := by kernel_rfl
theorem nmd12_1 (x : ByteArray) : ffn Tryz.prog SP [] 1000 [] Tryz.f128 [.agg ⟨[.string ⟨#[71, 69, 84]⟩, .string x]⟩, .string ⟨#[99, 111, 110, 110, 101, 99, 116, 105, 111, 110]⟩] h0 (fun v _ => v = .bool false) = (Value.bool false = .bool false) := by kernel_rfl
theorem nmd12_2 (x : ByteArray) : ffn Tryz.prog SP [] 1000 [] Tryz.f128 [.agg ⟨[.string ⟨#[71, 69, 84]⟩, .string x]⟩, .string ⟨#[120, 45, 102, 111, 114, 119, 97, 114, 100, 101, 100, 45, 102, 111, 114]⟩] h0 (fun v _ => v = .bool false) = (Value.bool false = .bool false) := by kernel_rfl
theorem nmd12_3 (x : ByteArray) : ffn Tryz.prog SP [] 1000 [] Tryz.f128 [.agg ⟨[.string ⟨#[71, 69, 84]⟩, .string x]⟩, .string ⟨#[120, 45, 102, 111, 114, 119, 97, 114, 100, 101, 100, 45, 104, 111, 115, 116]⟩] h0 (fun v _ => v = .bool false) = (Value.bool false = .bool false) := by kernel_rfl
theorem nmd12_4 (x : ByteArray) : ffn Tryz.prog SP [] 1000 [] Tryz.f128 [.agg ⟨[.string ⟨#[71, 69, 84]⟩, .string x]⟩, .string ⟨#[107, 101, 101, 112, 45, 97, 108, 105, 118, 101]⟩] h0 (fun v _ => v = .bool false) = (Value.bool false = .bool false) := by kernel_rfl
theorem nmd12_5 (x : ByteArray) : ffn Tryz.prog SP [] 1000 [] Tryz.f128 [.agg ⟨[.string ⟨#[71, 69, 84]⟩, .string x]⟩, .string ⟨#[116, 101]⟩] h0 (fun v _ => v = .bool false) = (Value.bool false = .bool false) := by kernel_rfl
theorem nmd12_6 (x : ByteArray) : ffn Tryz.prog SP [] 1000 [] Tryz.f128 [.agg ⟨[.string ⟨#[71, 69, 84]⟩, .string x]⟩, .string ⟨#[116, 114, 97, 105, 108, 101, 114]⟩] h0 (fun v _ => v = .bool false) = (Value.bool false = .bool false) := by kernel_rfl
theorem nmd12_7 (x : ByteArray) : ffn Tryz.prog SP [] 1000 [] Tryz.f128 [.agg ⟨[.string ⟨#[71, 69, 84]⟩, .string x]⟩, .string ⟨#[117, 112, 103, 114, 97, 100, 101]⟩] h0 (fun v _ => v = .bool false) = (Value.bool false = .bool false) := by kernel_rfl
theorem nmd12_8 (x : ByteArray) : ffn Tryz.prog SP [] 1000 [] Tryz.f128 [.agg ⟨[.string ⟨#[71, 69, 84]⟩, .string x]⟩, .string ⟨#[49]⟩] h0 (fun v _ => v = .bool false) = (Value.bool false = .bool false) := by kernel_rfl
theorem nmd12_9 (x : ByteArray) : ffn Tryz.prog SP [] 1000 [] Tryz.f128 [.agg ⟨[.string ⟨#[71, 69, 84]⟩, .string x]⟩, .string ⟨#[120]⟩] h0 (fun v _ => v = .bool false) = (Value.bool false = .bool false) := by kernel_rfl
theorem nmd12_10 (x : ByteArray) : ffn Tryz.prog SP [] 1000 [] Tryz.f128 [.agg ⟨[.string ⟨#[71, 69, 84]⟩, .string x]⟩, .string ⟨#[97]⟩] h0 (fun v _ => v = .bool false) = (Value.bool false = .bool false) := by kernel_rfl
theorem nmd12_11 (x : ByteArray) : ffn Tryz.prog SP [] 1000 [] Tryz.f128 [.agg ⟨[.string ⟨#[71, 69, 84]⟩, .string x]⟩, .string ⟨#[98]⟩] h0 (fun v _ => v = .bool false) = (Value.bool false = .bool false) := by kernel_rfl
theorem nmd12_12 (x : ByteArray) : ffn Tryz.prog SP [] 1000 [] Tryz.f128 [.agg ⟨[.string ⟨#[71, 69, 84]⟩, .string x]⟩, .string ⟨#[120, 45, 111, 110, 101]⟩] h0 (fun v _ => v = .bool false) = (Value.bool false = .bool false) := by kernel_rfl
theorem nmd12_13 (x : ByteArray) : ffn Tryz.prog SP [] 1000 [] Tryz.f128 [.agg ⟨[.string ⟨#[71, 69, 84]⟩, .string x]⟩, .string ⟨#[99, 108, 111, 115, 101]⟩] h0 (fun v _ => v = .bool false) = (Value.bool false = .bool false) := by kernel_rfl
theorem nmd12_14 (x : ByteArray) : ffn Tryz.prog SP [] 1000 [] Tryz.f128 [.agg ⟨[.string ⟨#[71, 69, 84]⟩, .string x]⟩, .string ⟨#[103, 119]⟩] h0 (fun v _ => v = .bool false) = (Value.bool false = .bool false) := by kernel_rfl
theorem nmd12_15 (x : ByteArray) : ffn Tryz.prog SP [] 1000 [] Tryz.f128 [.agg ⟨[.string ⟨#[71, 69, 84]⟩, .string x]⟩, .string ⟨#[49, 46, 50, 46, 51, 46, 52]⟩] h0 (fun v _ => v = .bool false) = (Value.bool false = .bool false) := by kernel_rfl
theorem nmd12_16 (x : ByteArray) : ffn Tryz.prog SP [] 1000 [] Tryz.f128 [.agg ⟨[.string ⟨#[71, 69, 84]⟩, .string x]⟩, .string ⟨#[53, 46, 54, 46, 55, 46, 56]⟩] h0 (fun v _ => v = .bool false) = (Value.bool false = .bool false) := by kernel_rfl
theorem nmd12_17 (x : ByteArray) : ffn Tryz.prog SP [] 1000 [] Tryz.f128 [.agg ⟨[.string ⟨#[71, 69, 84]⟩, .string x]⟩, .string ⟨#[57, 46, 57, 46, 57, 46, 57]⟩] h0 (fun v _ => v = .bool false) = (Value.bool false = .bool false) := by kernel_rfl
theorem nmd13_0 (x : ByteArray) : ffn Tryz.prog SP [] 1000 [] Tryz.f128 [.agg ⟨[.string ⟨#[72, 69, 65, 68]⟩, .string x]⟩, .string ⟨#[118, 105, 97]⟩] h0 (fun v _ => v = .bool false) = (Value.bool false = .bool false) := by kernel_rfl
theorem nmd13_1 (x : ByteArray) : ffn Tryz.prog SP [] 1000 [] Tryz.f128 [.agg ⟨[.string ⟨#[72, 69, 65, 68]⟩, .string x]⟩, .string ⟨#[99, 111, 110, 110, 101, 99, 116, 105, 111, 110]⟩] h0 (fun v _ => v = .bool false) = (Value.bool false = .bool false) := by kernel_rfl
theorem nmd13_2 (x : ByteArray) : ffn Tryz.prog SP [] 1000 [] Tryz.f128 [.agg ⟨[.string ⟨#[72, 69, 65, 68]⟩, .string x]⟩, .string ⟨#[120, 45, 102, 111, 114, 119, 97, 114, 100, 101, 100, 45, 102, 111, 114]⟩] h0 (fun v _ => v = .bool false) = (Value.bool false = .bool false) := by kernel_rfl
theorem nmd13_3 (x : ByteArray) : ffn Tryz.prog SP [] 1000 [] Tryz.f128 [.agg ⟨[.string ⟨#[72, 69, 65, 68]⟩, .string x]⟩, .string ⟨#[120, 45, 102, 111, 114, 119, 97, 114, 100, 101, 100, 45, 104, 111, 115, 116]⟩] h0 (fun v _ => v = .bool false) = (Value.bool false = .bool false) := by kernel_rfl
theorem nmd13_4 (x : ByteArray) : ffn Tryz.prog SP [] 1000 [] Tryz.f128 [.agg ⟨[.string ⟨#[72, 69, 65, 68]⟩, .string x]⟩, .string ⟨#[107, 101, 101, 112, 45, 97, 108, 105, 118, 101]⟩] h0 (fun v _ => v = .bool false) = (Value.bool false = .bool false) := by kernel_rfl
theorem nmd13_5 (x : ByteArray) : ffn Tryz.prog SP [] 1000 [] Tryz.f128 [.agg ⟨[.string ⟨#[72, 69, 65, 68]⟩, .string x]⟩, .string ⟨#[116, 101]⟩] h0 (fun v _ => v = .bool false) = (Value.bool false = .bool false) := by kernel_rfl
theorem nmd13_6 (x : ByteArray) : ffn Tryz.prog SP [] 1000 [] Tryz.f128 [.agg ⟨[.string ⟨#[72, 69, 65, 68]⟩, .string x]⟩, .string ⟨#[116, 114, 97, 105, 108, 101, 114]⟩] h0 (fun v _ => v = .bool false) = (Value.bool false = .bool false) := by kernel_rfl
theorem nmd13_7 (x : ByteArray) : ffn Tryz.prog SP [] 1000 [] Tryz.f128 [.agg ⟨[.string ⟨#[72, 69, 65, 68]⟩, .string x]⟩, .string ⟨#[117, 112, 103, 114, 97, 100, 101]⟩] h0 (fun v _ => v = .bool false) = (Value.bool false = .bool false) := by kernel_rfl
theorem nmd13_8 (x : ByteArray) : ffn Tryz.prog SP [] 1000 [] Tryz.f128 [.agg ⟨[.string ⟨#[72, 69, 65, 68]⟩, .string x]⟩, .string ⟨#[49]⟩] h0 (fun v _ => v = .bool false) = (Value.bool false = .bool false) := by kernel_rfl
theorem nmd13_9 (x : ByteArray) : ffn Tryz.prog SP [] 1000 [] Tryz.f128 [.agg ⟨[.string ⟨#[72, 69, 65, 68]⟩, .string x]⟩, .string ⟨#[120]⟩] h0 (fun v _ => v = .bool false) = (Value.bool false = .bool false) := by kernel_rfl
theorem nmd13_10 (x : ByteArray) : ffn Tryz.prog SP [] 1000 [] Tryz.f128 [.agg ⟨[.string ⟨#[72, 69, 65, 68]⟩, .string x]⟩, .string ⟨#[97]⟩] h0 (fun v _ => v = .bool false) = (Value.bool false = .bool false) := by kernel_rfl
theorem nmd13_11 (x : ByteArray) : ffn Tryz.prog SP [] 1000 [] Tryz.f128 [.agg ⟨[.string ⟨#[72, 69, 65, 68]⟩, .string x]⟩, .string ⟨#[98]⟩] h0 (fun v _ => v = .bool false) = (Value.bool false = .bool false) := by kernel_rfl
theorem nmd13_12 (x : ByteArray) : ffn Tryz.prog SP [] 1000 [] Tryz.f128 [.agg ⟨[.string ⟨#[72, 69, 65, 68]⟩, .string x]⟩, .string ⟨#[120, 45, 111, 110, 101]⟩] h0 (fun v _ => v = .bool false) = (Value.bool false = .bool false) := by kernel_rfl
theorem nmd13_13 (x : ByteArray) : ffn Tryz.prog SP [] 1000 [] Tryz.f128 [.agg ⟨[.string ⟨#[72, 69, 65, 68]⟩, .string x]⟩, .string ⟨#[99, 108, 111, 115, 101]⟩] h0 (fun v _ => v = .bool false) = (Value.bool false = .bool false) := by kernel_rfl
theorem nmd13_14 (x : ByteArray) : ffn Tryz.prog SP [] 1000 [] Tryz.f128 [.agg ⟨[.string ⟨#[72, 69, 65, 68]⟩, .string x]⟩, .string ⟨#[103, 119]⟩] h0 (fun v _ => v = .bool false) = (Value.bool false = .bool false) := by kernel_rfl
theorem nmd13_15 (x : ByteArray) : ffn Tryz.prog SP [] 1000 [] Tryz.f128 [.agg ⟨[.string ⟨#[72, 69, 65, 68]⟩, .string x]⟩, .string ⟨#[49, 46, 50, 46, 51, 46, 52]⟩] h0 (fun v _ => v = .bool false) = (Value.bool false = .bool false) := by kernel_rfl
theorem nmd13_16 (x : ByteArray) : ffn Tryz.prog SP [] 1000 [] Tryz.f128 [.agg ⟨[.string ⟨#[72, 69, 65, 68]⟩, .string x]⟩, .string ⟨#[53, 46, 54, 46, 55, 46, 56]⟩] h0 (fun v _ => v = .bool false) = (Value.bool false = .bool false) := by kernel_rfl
theorem nmd13_17 (x : ByteArray) : ffn Tryz.prog SP [] 1000 [] Tryz.f128 [.agg ⟨[.string ⟨#[72, 69, 65, 68]⟩, .string x]⟩, .string ⟨#[57, 46, 57, 46, 57, 46, 57]⟩] h0 (fun v _ => v = .bool false) = (Value.bool false = .bool false) := by kernel_rfl
theorem nmd14_0 (x : ByteArray) : ffn Tryz.prog SP [] 1000 [] Tryz.f128 [.agg ⟨[.string ⟨#[80, 79, 83, 84]⟩, .string x]⟩, .string ⟨#[118, 105, 97]⟩] h0 (fun v _ => v = .bool false) = (Value.bool false = .bool false) := by kernel_rfl
theorem nmd14_1 (x : ByteArray) : ffn Tryz.prog SP [] 1000 [] Tryz.f128 [.agg ⟨[.string ⟨#[80, 79, 83, 84]⟩, .string x]⟩, .string ⟨#[99, 111, 110, 110, 101, 99, 116, 105, 111, 110]⟩] h0 (fun v _ => v = .bool false) = (Value.bool false = .bool false) := by kernel_rfl
theorem nmd14_2 (x : ByteArray) : ffn Tryz.prog SP [] 1000 [] Tryz.f128 [.agg ⟨[.string ⟨#[80, 79, 83, 84]⟩, .string x]⟩, .string ⟨#[120, 45, 102, 111, 114, 119, 97, 114, 100, 101, 100, 45, 102, 111, 114]⟩] h0 (fun v _ => v = .bool false) = (Value.bool false = .bool false) := by kernel_rfl
theorem nmd14_3 (x : ByteArray) : ffn Tryz.prog SP [] 1000 [] Tryz.f128 [.agg ⟨[.string ⟨#[80, 79, 83, 84]⟩, .string x]⟩, .string ⟨#[120, 45, 102, 111, 114, 119, 97, 114, 100, 101, 100, 45, 104, 111, 115, 116]⟩] h0 (fun v _ => v = .bool false) = (Value.bool false = .bool false) := by kernel_rfl
theorem nmd14_4 (x : ByteArray) : ffn Tryz.prog SP [] 1000 [] Tryz.f128 [.agg ⟨[.string ⟨#[80, 79, 83, 84]⟩, .string x]⟩, .string ⟨#[107, 101, 101, 112, 45, 97, 108, 105, 118, 101]⟩] h0 (fun v _ => v = .bool false) = (Value.bool false = .bool false) := by kernel_rfl
theorem nmd14_5 (x : ByteArray) : ffn Tryz.prog SP [] 1000 [] Tryz.f128 [.agg ⟨[.string ⟨#[80, 79, 83, 84]⟩, .string x]⟩, .string ⟨#[116, 101]⟩] h0 (fun v _ => v = .bool false) = (Value.bool false = .bool false) := by kernel_rfl
theorem nmd14_6 (x : ByteArray) : ffn Tryz.prog SP [] 1000 [] Tryz.f128 [.agg ⟨[.string ⟨#[80, 79, 83, 84]⟩, .string x]⟩, .string ⟨#[116, 114, 97, 105, 108, 101, 114]⟩] h0 (fun v _ => v = .bool false) = (Value.bool false = .bool false) := by kernel_rfl
theorem nmd14_7 (x : ByteArray) : ffn Tryz.prog SP [] 1000 [] Tryz.f128 [.agg ⟨[.string ⟨#[80, 79, 83, 84]⟩, .string x]⟩, .string ⟨#[117, 112, 103, 114, 97, 100, 101]⟩] h0 (fun v _ => v = .bool false) = (Value.bool false = .bool false) := by kernel_rfl
theorem nmd14_8 (x : ByteArray) : ffn Tryz.prog SP [] 1000 [] Tryz.f128 [.agg ⟨[.string ⟨#[80, 79, 83, 84]⟩, .string x]⟩, .string ⟨#[49]⟩] h0 (fun v _ => v = .bool false) = (Value.bool false = .bool false) := by kernel_rfl
theorem nmd14_9 (x : ByteArray) : ffn Tryz.prog SP [] 1000 [] Tryz.f128 [.agg ⟨[.string ⟨#[80, 79, 83, 84]⟩, .string x]⟩, .string ⟨#[120]⟩] h0 (fun v _ => v = .bool false) = (Value.bool false = .bool false) := by kernel_rfl
theorem nmd14_10 (x : ByteArray) : ffn Tryz.prog SP [] 1000 [] Tryz.f128 [.agg ⟨[.string ⟨#[80, 79, 83, 84]⟩, .string x]⟩, .string ⟨#[97]⟩] h0 (fun v _ => v = .bool false) = (Value.bool false = .bool false) := by kernel_rfl
theorem nmd14_11 (x : ByteArray) : ffn Tryz.prog SP [] 1000 [] Tryz.f128 [.agg ⟨[.string ⟨#[80, 79, 83, 84]⟩, .string x]⟩, .string ⟨#[98]⟩] h0 (fun v _ => v = .bool false) = (Value.bool false = .bool false) := by kernel_rfl
theorem nmd14_12 (x : ByteArray) : ffn Tryz.prog SP [] 1000 [] Tryz.f128 [.agg ⟨[.string ⟨#[80, 79, 83, 84]⟩, .string x]⟩, .string ⟨#[120, 45, 111, 110, 101]⟩] h0 (fun v _ => v = .bool false) = (Value.bool false = .bool false) := by kernel_rfl
theorem nmd14_13 (x : ByteArray) : ffn Tryz.prog SP [] 1000 [] Tryz.f128 [.agg ⟨[.string ⟨#[80, 79, 83, 84]⟩, .string x]⟩, .string ⟨#[99, 108, 111, 115, 101]⟩] h0 (fun v _ => v = .bool false) = (Value.bool false = .bool false) := by kernel_rfl
theorem nmd14_14 (x : ByteArray) : ffn Tryz.prog SP [] 1000 [] Tryz.f128 [.agg ⟨[.string ⟨#[80, 79, 83, 84]⟩, .string x]⟩, .string ⟨#[103, 119]⟩] h0 (fun v _ => v = .bool false) = (Value.bool false = .bool false) := by kernel_rfl
theorem nmd14_15 (x : ByteArray) : ffn Tryz.prog SP [] 1000 [] Tryz.f128 [.agg ⟨[.string ⟨#[80, 79, 83, 84]⟩, .string x]⟩, .string ⟨#[49, 46, 50, 46, 51, 46, 52]⟩] h0 (fun v _ => v = .bool false) = (Value.bool false = .bool false) := by kernel_rfl
theorem nmd14_16 (x : ByteArray) : ffn Tryz.prog SP [] 1000 [] Tryz.f128 [.agg ⟨[.string ⟨#[80, 79, 83, 84]⟩, .string x]⟩, .string ⟨#[53, 46, 54, 46, 55, 46, 56]⟩] h0 (fun v _ => v = .bool false) = (Value.bool false = .bool false) := by kernel_rfl
theorem nmd14_17 (x : ByteArray) : ffn Tryz.prog SP [] 1000 [] Tryz.f128 [.agg ⟨[.string ⟨#[80, 79, 83, 84]⟩, .string x]⟩, .string ⟨#[57, 46, 57, 46, 57, 46, 57]⟩] h0 (fun v _ => v = .bool false) = (Value.bool false = .bool false) := by kernel_rfl
theorem nmd15_0 (x : ByteArray) : ffn Tryz.prog SP [] 1000 [] Tryz.f128 [.agg ⟨[.string ⟨#[103, 101, 116]⟩, .string x]⟩, .string ⟨#[118, 105, 97]⟩] h0 (fun v _ => v = .bool false) = (Value.bool false = .bool false) := by kernel_rfl
theorem nmd15_1 (x : ByteArray) : ffn Tryz.prog SP [] 1000 [] Tryz.f128 [.agg ⟨[.string ⟨#[103, 101, 116]⟩, .string x]⟩, .string ⟨#[99, 111, 110, 110, 101, 99, 116, 105, 111, 110]⟩] h0 (fun v _ => v = .bool false) = (Value.bool false = .bool false) := by kernel_rfl
theorem nmd15_2 (x : ByteArray) : ffn Tryz.prog SP [] 1000 [] Tryz.f128 [.agg ⟨[.string ⟨#[103, 101, 116]⟩, .string x]⟩, .string ⟨#[120, 45, 102, 111, 114, 119, 97, 114, 100, 101, 100, 45, 102, 111, 114]⟩] h0 (fun v _ => v = .bool false) = (Value.bool false = .bool false) := by kernel_rfl
theorem nmd15_3 (x : ByteArray) : ffn Tryz.prog SP [] 1000 [] Tryz.f128 [.agg ⟨[.string ⟨#[103, 101, 116]⟩, .string x]⟩, .string ⟨#[120, 45, 102, 111, 114, 119, 97, 114, 100, 101, 100, 45, 104, 111, 115, 116]⟩] h0 (fun v _ => v = .bool false) = (Value.bool false = .bool false) := by kernel_rfl
theorem nmd15_4 (x : ByteArray) : ffn Tryz.prog SP [] 1000 [] Tryz.f128 [.agg ⟨[.string ⟨#[103, 101, 116]⟩, .string x]⟩, .string ⟨#[107, 101, 101, 112, 45, 97, 108, 105, 118, 101]⟩] h0 (fun v _ => v = .bool false) = (Value.bool false = .bool false) := by kernel_rfl
theorem nmd15_5 (x : ByteArray) : ffn Tryz.prog SP [] 1000 [] Tryz.f128 [.agg ⟨[.string ⟨#[103, 101, 116]⟩, .string x]⟩, .string ⟨#[116, 101]⟩] h0 (fun v _ => v = .bool false) = (Value.bool false = .bool false) := by kernel_rfl
theorem nmd15_6 (x : ByteArray) : ffn Tryz.prog SP [] 1000 [] Tryz.f128 [.agg ⟨[.string ⟨#[103, 101, 116]⟩, .string x]⟩, .string ⟨#[116, 114, 97, 105, 108, 101, 114]⟩] h0 (fun v _ => v = .bool false) = (Value.bool false = .bool false) := by kernel_rfl
theorem nmd15_7 (x : ByteArray) : ffn Tryz.prog SP [] 1000 [] Tryz.f128 [.agg ⟨[.string ⟨#[103, 101, 116]⟩, .string x]⟩, .string ⟨#[117, 112, 103, 114, 97, 100, 101]⟩] h0 (fun v _ => v = .bool false) = (Value.bool false = .bool false) := by kernel_rfl
theorem nmd15_8 (x : ByteArray) : ffn Tryz.prog SP [] 1000 [] Tryz.f128 [.agg ⟨[.string ⟨#[103, 101, 116]⟩, .string x]⟩, .string ⟨#[49]⟩] h0 (fun v _ => v = .bool false) = (Value.bool false = .bool false) := by kernel_rfl
theorem nmd15_9 (x : ByteArray) : ffn Tryz.prog SP [] 1000 [] Tryz.f128 [.agg ⟨[.string ⟨#[103, 101, 116]⟩, .string x]⟩, .string ⟨#[120]⟩] h0 (fun v _ => v = .bool false) = (Value.bool false = .bool false) := by kernel_rfl
theorem nmd15_10 (x : ByteArray) : ffn Tryz.prog SP [] 1000 [] Tryz.f128 [.agg ⟨[.string ⟨#[103, 101, 116]⟩, .string x]⟩, .string ⟨#[97]⟩] h0 (fun v _ => v = .bool false) = (Value.bool false = .bool false) := by kernel_rfl
theorem nmd15_11 (x : ByteArray) : ffn Tryz.prog SP [] 1000 [] Tryz.f128 [.agg ⟨[.string ⟨#[103, 101, 116]⟩, .string x]⟩, .string ⟨#[98]⟩] h0 (fun v _ => v = .bool false) = (Value.bool false = .bool false) := by kernel_rfl
theorem nmd15_12 (x : ByteArray) : ffn Tryz.prog SP [] 1000 [] Tryz.f128 [.agg ⟨[.string ⟨#[103, 101, 116]⟩, .string x]⟩, .string ⟨#[120, 45, 111, 110, 101]⟩] h0 (fun v _ => v = .bool false) = (Value.bool false = .bool false) := by kernel_rfl
theorem nmd15_13 (x : ByteArray) : ffn Tryz.prog SP [] 1000 [] Tryz.f128 [.agg ⟨[.string ⟨#[103, 101, 116]⟩, .string x]⟩, .string ⟨#[99, 108, 111, 115, 101]⟩] h0 (fun v _ => v = .bool false) = (Value.bool false = .bool false) := by kernel_rfl
theorem nmd15_14 (x : ByteArray) : ffn Tryz.prog SP [] 1000 [] Tryz.f128 [.agg ⟨[.string ⟨#[103, 101, 116]⟩, .string x]⟩, .string ⟨#[103, 119]⟩] h0 (fun v _ => v = .bool false) = (Value.bool false = .bool false) := by kernel_rfl
theorem nmd15_15 (x : ByteArray) : ffn Tryz.prog SP [] 1000 [] Tryz.f128 [.agg ⟨[.string ⟨#[103, 101, 116]⟩, .string x]⟩, .string ⟨#[49, 46, 50, 46, 51, 46, 52]⟩] h0 (fun v _ => v = .bool false) = (Value.bool false = .bool false) := by kernel_rfl
theorem nmd15_16 (x : ByteArray) : ffn Tryz.prog SP [] 1000 [] Tryz.f128 [.agg ⟨[.string ⟨#[103, 101, 116]⟩, .string x]⟩, .string ⟨#[53, 46, 54, 46, 55, 46, 56]⟩] h0 (fun v _ => v = .bool false) = (Value.bool false = .bool false) := by kernel_rfl
theorem nmd15_17 (x : ByteArray) : ffn Tryz.prog SP [] 1000 [] Tryz.f128 [.agg ⟨[.string ⟨#[103, 101, 116]⟩, .string x]⟩, .string ⟨#[57, 46, 57, 46, 57, 46, 57]⟩] h0 (fun v _ => v = .bool false) = (Value.bool false = .bool false) := by kernel_rfl
theorem tok_fn (s : ByteArray) (h : inU namesU s = true) : FnOK 0 Tryz.prog 59 ⟨[.string s]⟩ h0 (fun v _ => v = .bool true) := by
  have h := inU_mem h
  simp only [namesU, List.mem_cons, List.not_mem_nil, or_false] at h
  rcases h with rfl | rfl | rfl | rfl | rfl | rfl | rfl | rfl | rfl | rfl | rfl | rfl | rfl | rfl | rfl | rfl
  · exact FnOK.ftree SP_ok mixed Tryz.func59 some59 tok0 rfl
  · exact FnOK.ftree SP_ok mixed Tryz.func59 some59 tok1 rfl
  · exact FnOK.ftree SP_ok mixed Tryz.func59 some59 tok2 rfl
  · exact FnOK.ftree SP_ok mixed Tryz.func59 some59 tok3 rfl
  · exact FnOK.ftree SP_ok mixed Tryz.func59 some59 tok4 rfl
  · exact FnOK.ftree SP_ok mixed Tryz.func59 some59 tok5 rfl
  · exact FnOK.ftree SP_ok mixed Tryz.func59 some59 tok6 rfl
  · exact FnOK.ftree SP_ok mixed Tryz.func59 some59 tok7 rfl
  · exact FnOK.ftree SP_ok mixed Tryz.func59 some59 tok8 rfl
  · exact FnOK.ftree SP_ok mixed Tryz.func59 some59 tok9 rfl
  · exact FnOK.ftree SP_ok mixed Tryz.func59 some59 tok10 rfl
  · exact FnOK.ftree SP_ok mixed Tryz.func59 some59 tok11 rfl
  · exact FnOK.ftree SP_ok mixed Tryz.func59 some59 tok12 rfl
  · exact FnOK.ftree SP_ok mixed Tryz.func59 some59 tok13 rfl
  · exact FnOK.ftree SP_ok mixed Tryz.func59 some59 tok14 rfl
  · exact FnOK.ftree SP_ok mixed Tryz.func59 some59 tok15 rfl
theorem nmd_fn (s m x : ByteArray) (h : inU namesU s = true) (h2 : inU asksU m = true) : FnOK 0 Tryz.prog 128 ⟨[.agg ⟨[.string s, .string x]⟩, .string m]⟩ h0 (fun v _ => v = .bool (named s m)) := by
  have h := inU_mem h
  have h2 := inU_mem h2
  simp only [namesU, List.mem_cons, List.not_mem_nil, or_false] at h
  simp only [asksU, List.mem_cons, List.not_mem_nil, or_false] at h2
  rcases h with rfl | rfl | rfl | rfl | rfl | rfl | rfl | rfl | rfl | rfl | rfl | rfl | rfl | rfl | rfl | rfl <;> rcases h2 with rfl | rfl | rfl | rfl | rfl | rfl | rfl | rfl | rfl | rfl | rfl | rfl | rfl | rfl | rfl | rfl | rfl | rfl
  · exact FnOK.ftree SP_ok mixed Tryz.func128 some128 (nmd0_0 x) rfl
  · exact FnOK.ftree SP_ok mixed Tryz.func128 some128 (nmd0_1 x) rfl
  · exact FnOK.ftree SP_ok mixed Tryz.func128 some128 (nmd0_2 x) rfl
  · exact FnOK.ftree SP_ok mixed Tryz.func128 some128 (nmd0_3 x) rfl
  · exact FnOK.ftree SP_ok mixed Tryz.func128 some128 (nmd0_4 x) rfl
  · exact FnOK.ftree SP_ok mixed Tryz.func128 some128 (nmd0_5 x) rfl
  · exact FnOK.ftree SP_ok mixed Tryz.func128 some128 (nmd0_6 x) rfl
  · exact FnOK.ftree SP_ok mixed Tryz.func128 some128 (nmd0_7 x) rfl
  · exact FnOK.ftree SP_ok mixed Tryz.func128 some128 (nmd0_8 x) rfl
  · exact FnOK.ftree SP_ok mixed Tryz.func128 some128 (nmd0_9 x) rfl
  · exact FnOK.ftree SP_ok mixed Tryz.func128 some128 (nmd0_10 x) rfl
  · exact FnOK.ftree SP_ok mixed Tryz.func128 some128 (nmd0_11 x) rfl
  · exact FnOK.ftree SP_ok mixed Tryz.func128 some128 (nmd0_12 x) rfl
  · exact FnOK.ftree SP_ok mixed Tryz.func128 some128 (nmd0_13 x) rfl
  · exact FnOK.ftree SP_ok mixed Tryz.func128 some128 (nmd0_14 x) rfl
  · exact FnOK.ftree SP_ok mixed Tryz.func128 some128 (nmd0_15 x) rfl
  · exact FnOK.ftree SP_ok mixed Tryz.func128 some128 (nmd0_16 x) rfl
  · exact FnOK.ftree SP_ok mixed Tryz.func128 some128 (nmd0_17 x) rfl
  · exact FnOK.ftree SP_ok mixed Tryz.func128 some128 (nmd1_0 x) rfl
  · exact FnOK.ftree SP_ok mixed Tryz.func128 some128 (nmd1_1 x) rfl
  · exact FnOK.ftree SP_ok mixed Tryz.func128 some128 (nmd1_2 x) rfl
  · exact FnOK.ftree SP_ok mixed Tryz.func128 some128 (nmd1_3 x) rfl
  · exact FnOK.ftree SP_ok mixed Tryz.func128 some128 (nmd1_4 x) rfl
  · exact FnOK.ftree SP_ok mixed Tryz.func128 some128 (nmd1_5 x) rfl
  · exact FnOK.ftree SP_ok mixed Tryz.func128 some128 (nmd1_6 x) rfl
  · exact FnOK.ftree SP_ok mixed Tryz.func128 some128 (nmd1_7 x) rfl
  · exact FnOK.ftree SP_ok mixed Tryz.func128 some128 (nmd1_8 x) rfl
  · exact FnOK.ftree SP_ok mixed Tryz.func128 some128 (nmd1_9 x) rfl
  · exact FnOK.ftree SP_ok mixed Tryz.func128 some128 (nmd1_10 x) rfl
  · exact FnOK.ftree SP_ok mixed Tryz.func128 some128 (nmd1_11 x) rfl
  · exact FnOK.ftree SP_ok mixed Tryz.func128 some128 (nmd1_12 x) rfl
  · exact FnOK.ftree SP_ok mixed Tryz.func128 some128 (nmd1_13 x) rfl
  · exact FnOK.ftree SP_ok mixed Tryz.func128 some128 (nmd1_14 x) rfl
  · exact FnOK.ftree SP_ok mixed Tryz.func128 some128 (nmd1_15 x) rfl
  · exact FnOK.ftree SP_ok mixed Tryz.func128 some128 (nmd1_16 x) rfl
  · exact FnOK.ftree SP_ok mixed Tryz.func128 some128 (nmd1_17 x) rfl
  · exact FnOK.ftree SP_ok mixed Tryz.func128 some128 (nmd2_0 x) rfl
  · exact FnOK.ftree SP_ok mixed Tryz.func128 some128 (nmd2_1 x) rfl
  · exact FnOK.ftree SP_ok mixed Tryz.func128 some128 (nmd2_2 x) rfl
  · exact FnOK.ftree SP_ok mixed Tryz.func128 some128 (nmd2_3 x) rfl
  · exact FnOK.ftree SP_ok mixed Tryz.func128 some128 (nmd2_4 x) rfl
  · exact FnOK.ftree SP_ok mixed Tryz.func128 some128 (nmd2_5 x) rfl
  · exact FnOK.ftree SP_ok mixed Tryz.func128 some128 (nmd2_6 x) rfl
  · exact FnOK.ftree SP_ok mixed Tryz.func128 some128 (nmd2_7 x) rfl
  · exact FnOK.ftree SP_ok mixed Tryz.func128 some128 (nmd2_8 x) rfl
  · exact FnOK.ftree SP_ok mixed Tryz.func128 some128 (nmd2_9 x) rfl
  · exact FnOK.ftree SP_ok mixed Tryz.func128 some128 (nmd2_10 x) rfl
  · exact FnOK.ftree SP_ok mixed Tryz.func128 some128 (nmd2_11 x) rfl
  · exact FnOK.ftree SP_ok mixed Tryz.func128 some128 (nmd2_12 x) rfl
  · exact FnOK.ftree SP_ok mixed Tryz.func128 some128 (nmd2_13 x) rfl
  · exact FnOK.ftree SP_ok mixed Tryz.func128 some128 (nmd2_14 x) rfl
  · exact FnOK.ftree SP_ok mixed Tryz.func128 some128 (nmd2_15 x) rfl
  · exact FnOK.ftree SP_ok mixed Tryz.func128 some128 (nmd2_16 x) rfl
  · exact FnOK.ftree SP_ok mixed Tryz.func128 some128 (nmd2_17 x) rfl
  · exact FnOK.ftree SP_ok mixed Tryz.func128 some128 (nmd3_0 x) rfl
  · exact FnOK.ftree SP_ok mixed Tryz.func128 some128 (nmd3_1 x) rfl
  · exact FnOK.ftree SP_ok mixed Tryz.func128 some128 (nmd3_2 x) rfl
  · exact FnOK.ftree SP_ok mixed Tryz.func128 some128 (nmd3_3 x) rfl
  · exact FnOK.ftree SP_ok mixed Tryz.func128 some128 (nmd3_4 x) rfl
  · exact FnOK.ftree SP_ok mixed Tryz.func128 some128 (nmd3_5 x) rfl
  · exact FnOK.ftree SP_ok mixed Tryz.func128 some128 (nmd3_6 x) rfl
  · exact FnOK.ftree SP_ok mixed Tryz.func128 some128 (nmd3_7 x) rfl
  · exact FnOK.ftree SP_ok mixed Tryz.func128 some128 (nmd3_8 x) rfl
  · exact FnOK.ftree SP_ok mixed Tryz.func128 some128 (nmd3_9 x) rfl
  · exact FnOK.ftree SP_ok mixed Tryz.func128 some128 (nmd3_10 x) rfl
  · exact FnOK.ftree SP_ok mixed Tryz.func128 some128 (nmd3_11 x) rfl
  · exact FnOK.ftree SP_ok mixed Tryz.func128 some128 (nmd3_12 x) rfl
  · exact FnOK.ftree SP_ok mixed Tryz.func128 some128 (nmd3_13 x) rfl
  · exact FnOK.ftree SP_ok mixed Tryz.func128 some128 (nmd3_14 x) rfl
  · exact FnOK.ftree SP_ok mixed Tryz.func128 some128 (nmd3_15 x) rfl
  · exact FnOK.ftree SP_ok mixed Tryz.func128 some128 (nmd3_16 x) rfl
  · exact FnOK.ftree SP_ok mixed Tryz.func128 some128 (nmd3_17 x) rfl
  · exact FnOK.ftree SP_ok mixed Tryz.func128 some128 (nmd4_0 x) rfl
  · exact FnOK.ftree SP_ok mixed Tryz.func128 some128 (nmd4_1 x) rfl
  · exact FnOK.ftree SP_ok mixed Tryz.func128 some128 (nmd4_2 x) rfl
  · exact FnOK.ftree SP_ok mixed Tryz.func128 some128 (nmd4_3 x) rfl
  · exact FnOK.ftree SP_ok mixed Tryz.func128 some128 (nmd4_4 x) rfl
  · exact FnOK.ftree SP_ok mixed Tryz.func128 some128 (nmd4_5 x) rfl
  · exact FnOK.ftree SP_ok mixed Tryz.func128 some128 (nmd4_6 x) rfl
  · exact FnOK.ftree SP_ok mixed Tryz.func128 some128 (nmd4_7 x) rfl
  · exact FnOK.ftree SP_ok mixed Tryz.func128 some128 (nmd4_8 x) rfl
  · exact FnOK.ftree SP_ok mixed Tryz.func128 some128 (nmd4_9 x) rfl
  · exact FnOK.ftree SP_ok mixed Tryz.func128 some128 (nmd4_10 x) rfl
  · exact FnOK.ftree SP_ok mixed Tryz.func128 some128 (nmd4_11 x) rfl
  · exact FnOK.ftree SP_ok mixed Tryz.func128 some128 (nmd4_12 x) rfl
  · exact FnOK.ftree SP_ok mixed Tryz.func128 some128 (nmd4_13 x) rfl
  · exact FnOK.ftree SP_ok mixed Tryz.func128 some128 (nmd4_14 x) rfl
  · exact FnOK.ftree SP_ok mixed Tryz.func128 some128 (nmd4_15 x) rfl
  · exact FnOK.ftree SP_ok mixed Tryz.func128 some128 (nmd4_16 x) rfl
  · exact FnOK.ftree SP_ok mixed Tryz.func128 some128 (nmd4_17 x) rfl
  · exact FnOK.ftree SP_ok mixed Tryz.func128 some128 (nmd5_0 x) rfl
  · exact FnOK.ftree SP_ok mixed Tryz.func128 some128 (nmd5_1 x) rfl
  · exact FnOK.ftree SP_ok mixed Tryz.func128 some128 (nmd5_2 x) rfl
  · exact FnOK.ftree SP_ok mixed Tryz.func128 some128 (nmd5_3 x) rfl
  · exact FnOK.ftree SP_ok mixed Tryz.func128 some128 (nmd5_4 x) rfl
  · exact FnOK.ftree SP_ok mixed Tryz.func128 some128 (nmd5_5 x) rfl
  · exact FnOK.ftree SP_ok mixed Tryz.func128 some128 (nmd5_6 x) rfl
  · exact FnOK.ftree SP_ok mixed Tryz.func128 some128 (nmd5_7 x) rfl
  · exact FnOK.ftree SP_ok mixed Tryz.func128 some128 (nmd5_8 x) rfl
  · exact FnOK.ftree SP_ok mixed Tryz.func128 some128 (nmd5_9 x) rfl
  · exact FnOK.ftree SP_ok mixed Tryz.func128 some128 (nmd5_10 x) rfl
  · exact FnOK.ftree SP_ok mixed Tryz.func128 some128 (nmd5_11 x) rfl
  · exact FnOK.ftree SP_ok mixed Tryz.func128 some128 (nmd5_12 x) rfl
  · exact FnOK.ftree SP_ok mixed Tryz.func128 some128 (nmd5_13 x) rfl
  · exact FnOK.ftree SP_ok mixed Tryz.func128 some128 (nmd5_14 x) rfl
  · exact FnOK.ftree SP_ok mixed Tryz.func128 some128 (nmd5_15 x) rfl
  · exact FnOK.ftree SP_ok mixed Tryz.func128 some128 (nmd5_16 x) rfl
  · exact FnOK.ftree SP_ok mixed Tryz.func128 some128 (nmd5_17 x) rfl
  · exact FnOK.ftree SP_ok mixed Tryz.func128 some128 (nmd6_0 x) rfl
  · exact FnOK.ftree SP_ok mixed Tryz.func128 some128 (nmd6_1 x) rfl
  · exact FnOK.ftree SP_ok mixed Tryz.func128 some128 (nmd6_2 x) rfl
  · exact FnOK.ftree SP_ok mixed Tryz.func128 some128 (nmd6_3 x) rfl
  · exact FnOK.ftree SP_ok mixed Tryz.func128 some128 (nmd6_4 x) rfl
  · exact FnOK.ftree SP_ok mixed Tryz.func128 some128 (nmd6_5 x) rfl
  · exact FnOK.ftree SP_ok mixed Tryz.func128 some128 (nmd6_6 x) rfl
  · exact FnOK.ftree SP_ok mixed Tryz.func128 some128 (nmd6_7 x) rfl
  · exact FnOK.ftree SP_ok mixed Tryz.func128 some128 (nmd6_8 x) rfl
  · exact FnOK.ftree SP_ok mixed Tryz.func128 some128 (nmd6_9 x) rfl
  · exact FnOK.ftree SP_ok mixed Tryz.func128 some128 (nmd6_10 x) rfl
  · exact FnOK.ftree SP_ok mixed Tryz.func128 some128 (nmd6_11 x) rfl
  · exact FnOK.ftree SP_ok mixed Tryz.func128 some128 (nmd6_12 x) rfl
  · exact FnOK.ftree SP_ok mixed Tryz.func128 some128 (nmd6_13 x) rfl
  · exact FnOK.ftree SP_ok mixed Tryz.func128 some128 (nmd6_14 x) rfl
  · exact FnOK.ftree SP_ok mixed Tryz.func128 some128 (nmd6_15 x) rfl
  · exact FnOK.ftree SP_ok mixed Tryz.func128 some128 (nmd6_16 x) rfl
  · exact FnOK.ftree SP_ok mixed Tryz.func128 some128 (nmd6_17 x) rfl
  · exact FnOK.ftree SP_ok mixed Tryz.func128 some128 (nmd7_0 x) rfl
  · exact FnOK.ftree SP_ok mixed Tryz.func128 some128 (nmd7_1 x) rfl
  · exact FnOK.ftree SP_ok mixed Tryz.func128 some128 (nmd7_2 x) rfl
  · exact FnOK.ftree SP_ok mixed Tryz.func128 some128 (nmd7_3 x) rfl
  · exact FnOK.ftree SP_ok mixed Tryz.func128 some128 (nmd7_4 x) rfl
  · exact FnOK.ftree SP_ok mixed Tryz.func128 some128 (nmd7_5 x) rfl
  · exact FnOK.ftree SP_ok mixed Tryz.func128 some128 (nmd7_6 x) rfl
  · exact FnOK.ftree SP_ok mixed Tryz.func128 some128 (nmd7_7 x) rfl
  · exact FnOK.ftree SP_ok mixed Tryz.func128 some128 (nmd7_8 x) rfl
  · exact FnOK.ftree SP_ok mixed Tryz.func128 some128 (nmd7_9 x) rfl
  · exact FnOK.ftree SP_ok mixed Tryz.func128 some128 (nmd7_10 x) rfl
  · exact FnOK.ftree SP_ok mixed Tryz.func128 some128 (nmd7_11 x) rfl
  · exact FnOK.ftree SP_ok mixed Tryz.func128 some128 (nmd7_12 x) rfl
  · exact FnOK.ftree SP_ok mixed Tryz.func128 some128 (nmd7_13 x) rfl
  · exact FnOK.ftree SP_ok mixed Tryz.func128 some128 (nmd7_14 x) rfl
  · exact FnOK.ftree SP_ok mixed Tryz.func128 some128 (nmd7_15 x) rfl
  · exact FnOK.ftree SP_ok mixed Tryz.func128 some128 (nmd7_16 x) rfl
  · exact FnOK.ftree SP_ok mixed Tryz.func128 some128 (nmd7_17 x) rfl
  · exact FnOK.ftree SP_ok mixed Tryz.func128 some128 (nmd8_0 x) rfl
  · exact FnOK.ftree SP_ok mixed Tryz.func128 some128 (nmd8_1 x) rfl
  · exact FnOK.ftree SP_ok mixed Tryz.func128 some128 (nmd8_2 x) rfl
  · exact FnOK.ftree SP_ok mixed Tryz.func128 some128 (nmd8_3 x) rfl
  · exact FnOK.ftree SP_ok mixed Tryz.func128 some128 (nmd8_4 x) rfl
  · exact FnOK.ftree SP_ok mixed Tryz.func128 some128 (nmd8_5 x) rfl
  · exact FnOK.ftree SP_ok mixed Tryz.func128 some128 (nmd8_6 x) rfl
  · exact FnOK.ftree SP_ok mixed Tryz.func128 some128 (nmd8_7 x) rfl
  · exact FnOK.ftree SP_ok mixed Tryz.func128 some128 (nmd8_8 x) rfl
  · exact FnOK.ftree SP_ok mixed Tryz.func128 some128 (nmd8_9 x) rfl
  · exact FnOK.ftree SP_ok mixed Tryz.func128 some128 (nmd8_10 x) rfl
  · exact FnOK.ftree SP_ok mixed Tryz.func128 some128 (nmd8_11 x) rfl
  · exact FnOK.ftree SP_ok mixed Tryz.func128 some128 (nmd8_12 x) rfl
  · exact FnOK.ftree SP_ok mixed Tryz.func128 some128 (nmd8_13 x) rfl
  · exact FnOK.ftree SP_ok mixed Tryz.func128 some128 (nmd8_14 x) rfl
  · exact FnOK.ftree SP_ok mixed Tryz.func128 some128 (nmd8_15 x) rfl
  · exact FnOK.ftree SP_ok mixed Tryz.func128 some128 (nmd8_16 x) rfl
  · exact FnOK.ftree SP_ok mixed Tryz.func128 some128 (nmd8_17 x) rfl
  · exact FnOK.ftree SP_ok mixed Tryz.func128 some128 (nmd9_0 x) rfl
  · exact FnOK.ftree SP_ok mixed Tryz.func128 some128 (nmd9_1 x) rfl
  · exact FnOK.ftree SP_ok mixed Tryz.func128 some128 (nmd9_2 x) rfl
  · exact FnOK.ftree SP_ok mixed Tryz.func128 some128 (nmd9_3 x) rfl
  · exact FnOK.ftree SP_ok mixed Tryz.func128 some128 (nmd9_4 x) rfl
  · exact FnOK.ftree SP_ok mixed Tryz.func128 some128 (nmd9_5 x) rfl
  · exact FnOK.ftree SP_ok mixed Tryz.func128 some128 (nmd9_6 x) rfl
  · exact FnOK.ftree SP_ok mixed Tryz.func128 some128 (nmd9_7 x) rfl
  · exact FnOK.ftree SP_ok mixed Tryz.func128 some128 (nmd9_8 x) rfl
  · exact FnOK.ftree SP_ok mixed Tryz.func128 some128 (nmd9_9 x) rfl
  · exact FnOK.ftree SP_ok mixed Tryz.func128 some128 (nmd9_10 x) rfl
  · exact FnOK.ftree SP_ok mixed Tryz.func128 some128 (nmd9_11 x) rfl
  · exact FnOK.ftree SP_ok mixed Tryz.func128 some128 (nmd9_12 x) rfl
  · exact FnOK.ftree SP_ok mixed Tryz.func128 some128 (nmd9_13 x) rfl
  · exact FnOK.ftree SP_ok mixed Tryz.func128 some128 (nmd9_14 x) rfl
  · exact FnOK.ftree SP_ok mixed Tryz.func128 some128 (nmd9_15 x) rfl
  · exact FnOK.ftree SP_ok mixed Tryz.func128 some128 (nmd9_16 x) rfl
  · exact FnOK.ftree SP_ok mixed Tryz.func128 some128 (nmd9_17 x) rfl
  · exact FnOK.ftree SP_ok mixed Tryz.func128 some128 (nmd10_0 x) rfl
  · exact FnOK.ftree SP_ok mixed Tryz.func128 some128 (nmd10_1 x) rfl
  · exact FnOK.ftree SP_ok mixed Tryz.func128 some128 (nmd10_2 x) rfl
  · exact FnOK.ftree SP_ok mixed Tryz.func128 some128 (nmd10_3 x) rfl
  · exact FnOK.ftree SP_ok mixed Tryz.func128 some128 (nmd10_4 x) rfl
  · exact FnOK.ftree SP_ok mixed Tryz.func128 some128 (nmd10_5 x) rfl
  · exact FnOK.ftree SP_ok mixed Tryz.func128 some128 (nmd10_6 x) rfl
  · exact FnOK.ftree SP_ok mixed Tryz.func128 some128 (nmd10_7 x) rfl
  · exact FnOK.ftree SP_ok mixed Tryz.func128 some128 (nmd10_8 x) rfl
  · exact FnOK.ftree SP_ok mixed Tryz.func128 some128 (nmd10_9 x) rfl
  · exact FnOK.ftree SP_ok mixed Tryz.func128 some128 (nmd10_10 x) rfl
  · exact FnOK.ftree SP_ok mixed Tryz.func128 some128 (nmd10_11 x) rfl
  · exact FnOK.ftree SP_ok mixed Tryz.func128 some128 (nmd10_12 x) rfl
  · exact FnOK.ftree SP_ok mixed Tryz.func128 some128 (nmd10_13 x) rfl
  · exact FnOK.ftree SP_ok mixed Tryz.func128 some128 (nmd10_14 x) rfl
  · exact FnOK.ftree SP_ok mixed Tryz.func128 some128 (nmd10_15 x) rfl
  · exact FnOK.ftree SP_ok mixed Tryz.func128 some128 (nmd10_16 x) rfl
  · exact FnOK.ftree SP_ok mixed Tryz.func128 some128 (nmd10_17 x) rfl
  · exact FnOK.ftree SP_ok mixed Tryz.func128 some128 (nmd11_0 x) rfl
  · exact FnOK.ftree SP_ok mixed Tryz.func128 some128 (nmd11_1 x) rfl
  · exact FnOK.ftree SP_ok mixed Tryz.func128 some128 (nmd11_2 x) rfl
  · exact FnOK.ftree SP_ok mixed Tryz.func128 some128 (nmd11_3 x) rfl
  · exact FnOK.ftree SP_ok mixed Tryz.func128 some128 (nmd11_4 x) rfl
  · exact FnOK.ftree SP_ok mixed Tryz.func128 some128 (nmd11_5 x) rfl
  · exact FnOK.ftree SP_ok mixed Tryz.func128 some128 (nmd11_6 x) rfl
  · exact FnOK.ftree SP_ok mixed Tryz.func128 some128 (nmd11_7 x) rfl
  · exact FnOK.ftree SP_ok mixed Tryz.func128 some128 (nmd11_8 x) rfl
  · exact FnOK.ftree SP_ok mixed Tryz.func128 some128 (nmd11_9 x) rfl
  · exact FnOK.ftree SP_ok mixed Tryz.func128 some128 (nmd11_10 x) rfl
  · exact FnOK.ftree SP_ok mixed Tryz.func128 some128 (nmd11_11 x) rfl
  · exact FnOK.ftree SP_ok mixed Tryz.func128 some128 (nmd11_12 x) rfl
  · exact FnOK.ftree SP_ok mixed Tryz.func128 some128 (nmd11_13 x) rfl
  · exact FnOK.ftree SP_ok mixed Tryz.func128 some128 (nmd11_14 x) rfl
  · exact FnOK.ftree SP_ok mixed Tryz.func128 some128 (nmd11_15 x) rfl
  · exact FnOK.ftree SP_ok mixed Tryz.func128 some128 (nmd11_16 x) rfl
  · exact FnOK.ftree SP_ok mixed Tryz.func128 some128 (nmd11_17 x) rfl
  · exact FnOK.ftree SP_ok mixed Tryz.func128 some128 (nmd12_0 x) rfl
  · exact FnOK.ftree SP_ok mixed Tryz.func128 some128 (nmd12_1 x) rfl
  · exact FnOK.ftree SP_ok mixed Tryz.func128 some128 (nmd12_2 x) rfl
  · exact FnOK.ftree SP_ok mixed Tryz.func128 some128 (nmd12_3 x) rfl
  · exact FnOK.ftree SP_ok mixed Tryz.func128 some128 (nmd12_4 x) rfl
  · exact FnOK.ftree SP_ok mixed Tryz.func128 some128 (nmd12_5 x) rfl
  · exact FnOK.ftree SP_ok mixed Tryz.func128 some128 (nmd12_6 x) rfl
  · exact FnOK.ftree SP_ok mixed Tryz.func128 some128 (nmd12_7 x) rfl
  · exact FnOK.ftree SP_ok mixed Tryz.func128 some128 (nmd12_8 x) rfl
  · exact FnOK.ftree SP_ok mixed Tryz.func128 some128 (nmd12_9 x) rfl
  · exact FnOK.ftree SP_ok mixed Tryz.func128 some128 (nmd12_10 x) rfl
  · exact FnOK.ftree SP_ok mixed Tryz.func128 some128 (nmd12_11 x) rfl
  · exact FnOK.ftree SP_ok mixed Tryz.func128 some128 (nmd12_12 x) rfl
  · exact FnOK.ftree SP_ok mixed Tryz.func128 some128 (nmd12_13 x) rfl
  · exact FnOK.ftree SP_ok mixed Tryz.func128 some128 (nmd12_14 x) rfl
  · exact FnOK.ftree SP_ok mixed Tryz.func128 some128 (nmd12_15 x) rfl
  · exact FnOK.ftree SP_ok mixed Tryz.func128 some128 (nmd12_16 x) rfl
  · exact FnOK.ftree SP_ok mixed Tryz.func128 some128 (nmd12_17 x) rfl
  · exact FnOK.ftree SP_ok mixed Tryz.func128 some128 (nmd13_0 x) rfl
  · exact FnOK.ftree SP_ok mixed Tryz.func128 some128 (nmd13_1 x) rfl
  · exact FnOK.ftree SP_ok mixed Tryz.func128 some128 (nmd13_2 x) rfl
  · exact FnOK.ftree SP_ok mixed Tryz.func128 some128 (nmd13_3 x) rfl
  · exact FnOK.ftree SP_ok mixed Tryz.func128 some128 (nmd13_4 x) rfl
  · exact FnOK.ftree SP_ok mixed Tryz.func128 some128 (nmd13_5 x) rfl
  · exact FnOK.ftree SP_ok mixed Tryz.func128 some128 (nmd13_6 x) rfl
  · exact FnOK.ftree SP_ok mixed Tryz.func128 some128 (nmd13_7 x) rfl
  · exact FnOK.ftree SP_ok mixed Tryz.func128 some128 (nmd13_8 x) rfl
  · exact FnOK.ftree SP_ok mixed Tryz.func128 some128 (nmd13_9 x) rfl
  · exact FnOK.ftree SP_ok mixed Tryz.func128 some128 (nmd13_10 x) rfl
  · exact FnOK.ftree SP_ok mixed Tryz.func128 some128 (nmd13_11 x) rfl
  · exact FnOK.ftree SP_ok mixed Tryz.func128 some128 (nmd13_12 x) rfl
  · exact FnOK.ftree SP_ok mixed Tryz.func128 some128 (nmd13_13 x) rfl
  · exact FnOK.ftree SP_ok mixed Tryz.func128 some128 (nmd13_14 x) rfl
  · exact FnOK.ftree SP_ok mixed Tryz.func128 some128 (nmd13_15 x) rfl
  · exact FnOK.ftree SP_ok mixed Tryz.func128 some128 (nmd13_16 x) rfl
  · exact FnOK.ftree SP_ok mixed Tryz.func128 some128 (nmd13_17 x) rfl
  · exact FnOK.ftree SP_ok mixed Tryz.func128 some128 (nmd14_0 x) rfl
  · exact FnOK.ftree SP_ok mixed Tryz.func128 some128 (nmd14_1 x) rfl
  · exact FnOK.ftree SP_ok mixed Tryz.func128 some128 (nmd14_2 x) rfl
  · exact FnOK.ftree SP_ok mixed Tryz.func128 some128 (nmd14_3 x) rfl
  · exact FnOK.ftree SP_ok mixed Tryz.func128 some128 (nmd14_4 x) rfl
  · exact FnOK.ftree SP_ok mixed Tryz.func128 some128 (nmd14_5 x) rfl
  · exact FnOK.ftree SP_ok mixed Tryz.func128 some128 (nmd14_6 x) rfl
  · exact FnOK.ftree SP_ok mixed Tryz.func128 some128 (nmd14_7 x) rfl
  · exact FnOK.ftree SP_ok mixed Tryz.func128 some128 (nmd14_8 x) rfl
  · exact FnOK.ftree SP_ok mixed Tryz.func128 some128 (nmd14_9 x) rfl
  · exact FnOK.ftree SP_ok mixed Tryz.func128 some128 (nmd14_10 x) rfl
  · exact FnOK.ftree SP_ok mixed Tryz.func128 some128 (nmd14_11 x) rfl
  · exact FnOK.ftree SP_ok mixed Tryz.func128 some128 (nmd14_12 x) rfl
  · exact FnOK.ftree SP_ok mixed Tryz.func128 some128 (nmd14_13 x) rfl
  · exact FnOK.ftree SP_ok mixed Tryz.func128 some128 (nmd14_14 x) rfl
  · exact FnOK.ftree SP_ok mixed Tryz.func128 some128 (nmd14_15 x) rfl
  · exact FnOK.ftree SP_ok mixed Tryz.func128 some128 (nmd14_16 x) rfl
  · exact FnOK.ftree SP_ok mixed Tryz.func128 some128 (nmd14_17 x) rfl
  · exact FnOK.ftree SP_ok mixed Tryz.func128 some128 (nmd15_0 x) rfl
  · exact FnOK.ftree SP_ok mixed Tryz.func128 some128 (nmd15_1 x) rfl
  · exact FnOK.ftree SP_ok mixed Tryz.func128 some128 (nmd15_2 x) rfl
  · exact FnOK.ftree SP_ok mixed Tryz.func128 some128 (nmd15_3 x) rfl
  · exact FnOK.ftree SP_ok mixed Tryz.func128 some128 (nmd15_4 x) rfl
  · exact FnOK.ftree SP_ok mixed Tryz.func128 some128 (nmd15_5 x) rfl
  · exact FnOK.ftree SP_ok mixed Tryz.func128 some128 (nmd15_6 x) rfl
  · exact FnOK.ftree SP_ok mixed Tryz.func128 some128 (nmd15_7 x) rfl
  · exact FnOK.ftree SP_ok mixed Tryz.func128 some128 (nmd15_8 x) rfl
  · exact FnOK.ftree SP_ok mixed Tryz.func128 some128 (nmd15_9 x) rfl
  · exact FnOK.ftree SP_ok mixed Tryz.func128 some128 (nmd15_10 x) rfl
  · exact FnOK.ftree SP_ok mixed Tryz.func128 some128 (nmd15_11 x) rfl
  · exact FnOK.ftree SP_ok mixed Tryz.func128 some128 (nmd15_12 x) rfl
  · exact FnOK.ftree SP_ok mixed Tryz.func128 some128 (nmd15_13 x) rfl
  · exact FnOK.ftree SP_ok mixed Tryz.func128 some128 (nmd15_14 x) rfl
  · exact FnOK.ftree SP_ok mixed Tryz.func128 some128 (nmd15_15 x) rfl
  · exact FnOK.ftree SP_ok mixed Tryz.func128 some128 (nmd15_16 x) rfl
  · exact FnOK.ftree SP_ok mixed Tryz.func128 some128 (nmd15_17 x) rfl
def spTok (f : FuncId) (args : Array Value) (h : AH) : Option (Bool × Value × AH) :=
  cond (Nat.beq f 59) (match args with
    | ⟨[.string s]⟩ => some (inU namesU s, .bool (true), h)
    | _ => none) none
theorem spTok_ok : SpOK spTok := by
  intro f args h v h' hs
  unfold spTok at hs
  obtain ⟨hf, hs2⟩ := cond_some hs
  clear hs
  have hs := hs2
  clear hs2
  have := Nat.eq_of_beq_eq_true hf
  subst this
  split at hs
  · rename_i s
    injection hs with hs
    injection hs with hb hs
    injection hs with hv hh
    subst hv hh
    try simp only [Bool.and_eq_true] at hb
    exact ⟨FnOK.pure (tok_fn s hb) rfl rfl h, Nat.le_refl _⟩
  · cases hs
def spNmd (f : FuncId) (args : Array Value) (h : AH) : Option (Bool × Value × AH) :=
  cond (Nat.beq f 128) (match args with
    | ⟨[.agg ⟨[.string s, .string x]⟩, .string m]⟩ => some (inU namesU s && inU asksU m, .bool (named s m), h)
    | _ => none) none
theorem spNmd_ok : SpOK spNmd := by
  intro f args h v h' hs
  unfold spNmd at hs
  obtain ⟨hf, hs2⟩ := cond_some hs
  clear hs
  have hs := hs2
  clear hs2
  have := Nat.eq_of_beq_eq_true hf
  subst this
  split at hs
  · rename_i s x m
    injection hs with hs
    injection hs with hb hs
    injection hs with hv hh
    subst hv hh
    try simp only [Bool.and_eq_true] at hb
    exact ⟨FnOK.pure (nmd_fn s m x hb.1 hb.2) rfl rfl h, Nat.le_refl _⟩
  · cases hs
end Go.Proofs.YtfjfdemnnhfmoaaGreatDoor
