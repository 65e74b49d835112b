/-
  Templates: words and segments, by closed runs.
-/
import Derived.Test.YtklcapmmogediaaGreatDoorBase
namespace Go.Proofs.YtklcapmmogediaaGreatDoor
open Go.Ev Go.RowKit

def ST0 : SC := ⟨idn, fun _ _ _ => none, false, false⟩
theorem ST0_ok : ST0.cfg.OK Tryz.prog := none_ok.cfg
theorem someIW : Tryz.f28.body.isSome = true := by kernel_rfl
theorem someSG : Tryz.f10.body.isSome = true := by kernel_rfl
theorem someWO : Tryz.f22.body.isSome = true := by kernel_rfl
theorem iw0 (Q : Value → Prop) : ffn Tryz.prog ST0 [] 3000 [] Tryz.f28 [.string ⟨#[97]⟩] h0 (fun v _ => Q v) = Q (.bool true) := by kernel_rfl
theorem iw0F : FnOK 0 Tryz.prog 28 ⟨[.string ⟨#[97]⟩]⟩ h0 (fun v _ => v = .bool true) := FnOK.ftree ST0_ok mixed Tryz.func28 someIW (iw0 _) rfl
theorem sg0 (Q : Value → Prop) : ffn Tryz.prog ST0 [] 3000 [] Tryz.f10 [.string ⟨#[97]⟩] h0 (fun v _ => Q v) = Q (.string ⟨#[97]⟩) := by kernel_rfl
theorem sg0F : FnOK 0 Tryz.prog 10 ⟨[.string ⟨#[97]⟩]⟩ h0 (fun v _ => v = .string ⟨#[97]⟩) := FnOK.ftree ST0_ok mixed Tryz.func10 someSG (sg0 _) rfl
theorem wo0 (Q : Value → Prop) : ffn Tryz.prog ST0 [] 3000 [] Tryz.f22 [.string ⟨#[97]⟩] h0 (fun v _ => Q v) = Q (.tuple ⟨[.agg ⟨[.int .i64 1, .string ⟨#[97]⟩]⟩, .int .i64 0]⟩) := by kernel_rfl
theorem wo0F : FnOK 0 Tryz.prog 22 ⟨[.string ⟨#[97]⟩]⟩ h0 (fun v _ => v = .tuple ⟨[.agg ⟨[.int .i64 1, .string ⟨#[97]⟩]⟩, .int .i64 0]⟩) := FnOK.ftree ST0_ok mixed Tryz.func22 someWO (wo0 _) rfl
theorem iw1 (Q : Value → Prop) : ffn Tryz.prog ST0 [] 3000 [] Tryz.f28 [.string ⟨#[98, 32, 99]⟩] h0 (fun v _ => Q v) = Q (.bool false) := by kernel_rfl
theorem iw1F : FnOK 0 Tryz.prog 28 ⟨[.string ⟨#[98, 32, 99]⟩]⟩ h0 (fun v _ => v = .bool false) := FnOK.ftree ST0_ok mixed Tryz.func28 someIW (iw1 _) rfl
theorem sg1 (Q : Value → Prop) : ffn Tryz.prog ST0 [] 3000 [] Tryz.f10 [.string ⟨#[98, 32, 99]⟩] h0 (fun v _ => Q v) = Q (.string ⟨#[98, 37, 50, 48, 99]⟩) := by kernel_rfl
theorem sg1F : FnOK 0 Tryz.prog 10 ⟨[.string ⟨#[98, 32, 99]⟩]⟩ h0 (fun v _ => v = .string ⟨#[98, 37, 50, 48, 99]⟩) := FnOK.ftree ST0_ok mixed Tryz.func10 someSG (sg1 _) rfl
theorem wo1 (Q : Value → Prop) : ffn Tryz.prog ST0 [] 3000 [] Tryz.f22 [.string ⟨#[98, 37, 50, 48, 99]⟩] h0 (fun v _ => Q v) = Q (.tuple ⟨[.agg ⟨[.int .i64 1, .string ⟨#[98, 32, 99]⟩]⟩, .int .i64 0]⟩) := by kernel_rfl
theorem wo1F : FnOK 0 Tryz.prog 22 ⟨[.string ⟨#[98, 37, 50, 48, 99]⟩]⟩ h0 (fun v _ => v = .tuple ⟨[.agg ⟨[.int .i64 1, .string ⟨#[98, 32, 99]⟩]⟩, .int .i64 0]⟩) := FnOK.ftree ST0_ok mixed Tryz.func22 someWO (wo1 _) rfl
theorem iw2 (Q : Value → Prop) : ffn Tryz.prog ST0 [] 3000 [] Tryz.f28 [.string ⟨#[]⟩] h0 (fun v _ => Q v) = Q (.bool false) := by kernel_rfl
theorem iw2F : FnOK 0 Tryz.prog 28 ⟨[.string ⟨#[]⟩]⟩ h0 (fun v _ => v = .bool false) := FnOK.ftree ST0_ok mixed Tryz.func28 someIW (iw2 _) rfl
theorem sg2 (Q : Value → Prop) : ffn Tryz.prog ST0 [] 3000 [] Tryz.f10 [.string ⟨#[]⟩] h0 (fun v _ => Q v) = Q (.string ⟨#[]⟩) := by kernel_rfl
theorem sg2F : FnOK 0 Tryz.prog 10 ⟨[.string ⟨#[]⟩]⟩ h0 (fun v _ => v = .string ⟨#[]⟩) := FnOK.ftree ST0_ok mixed Tryz.func10 someSG (sg2 _) rfl
theorem wo2 (Q : Value → Prop) : ffn Tryz.prog ST0 [] 3000 [] Tryz.f22 [.string ⟨#[]⟩] h0 (fun v _ => Q v) = Q (.tuple ⟨[.agg ⟨[.int .i64 1, .string ⟨#[]⟩]⟩, .int .i64 0]⟩) := by kernel_rfl
theorem wo2F : FnOK 0 Tryz.prog 22 ⟨[.string ⟨#[]⟩]⟩ h0 (fun v _ => v = .tuple ⟨[.agg ⟨[.int .i64 1, .string ⟨#[]⟩]⟩, .int .i64 0]⟩) := FnOK.ftree ST0_ok mixed Tryz.func22 someWO (wo2 _) rfl
theorem iw3 (Q : Value → Prop) : ffn Tryz.prog ST0 [] 3000 [] Tryz.f28 [.string ⟨#[97, 47, 98]⟩] h0 (fun v _ => Q v) = Q (.bool false) := by kernel_rfl
theorem iw3F : FnOK 0 Tryz.prog 28 ⟨[.string ⟨#[97, 47, 98]⟩]⟩ h0 (fun v _ => v = .bool false) := FnOK.ftree ST0_ok mixed Tryz.func28 someIW (iw3 _) rfl
theorem sg3 (Q : Value → Prop) : ffn Tryz.prog ST0 [] 3000 [] Tryz.f10 [.string ⟨#[97, 47, 98]⟩] h0 (fun v _ => Q v) = Q (.string ⟨#[97, 37, 50, 70, 98]⟩) := by kernel_rfl
theorem sg3F : FnOK 0 Tryz.prog 10 ⟨[.string ⟨#[97, 47, 98]⟩]⟩ h0 (fun v _ => v = .string ⟨#[97, 37, 50, 70, 98]⟩) := FnOK.ftree ST0_ok mixed Tryz.func10 someSG (sg3 _) rfl
theorem wo3 (Q : Value → Prop) : ffn Tryz.prog ST0 [] 3000 [] Tryz.f22 [.string ⟨#[97, 37, 50, 70, 98]⟩] h0 (fun v _ => Q v) = Q (.tuple ⟨[.agg ⟨[.int .i64 1, .string ⟨#[97, 47, 98]⟩]⟩, .int .i64 0]⟩) := by kernel_rfl
theorem wo3F : FnOK 0 Tryz.prog 22 ⟨[.string ⟨#[97, 37, 50, 70, 98]⟩]⟩ h0 (fun v _ => v = .tuple ⟨[.agg ⟨[.int .i64 1, .string ⟨#[97, 47, 98]⟩]⟩, .int .i64 0]⟩) := FnOK.ftree ST0_ok mixed Tryz.func22 someWO (wo3 _) rfl
theorem iw4 (Q : Value → Prop) : ffn Tryz.prog ST0 [] 3000 [] Tryz.f28 [.string ⟨#[255]⟩] h0 (fun v _ => Q v) = Q (.bool false) := by kernel_rfl
theorem iw4F : FnOK 0 Tryz.prog 28 ⟨[.string ⟨#[255]⟩]⟩ h0 (fun v _ => v = .bool false) := FnOK.ftree ST0_ok mixed Tryz.func28 someIW (iw4 _) rfl
theorem sg4 (Q : Value → Prop) : ffn Tryz.prog ST0 [] 3000 [] Tryz.f10 [.string ⟨#[255]⟩] h0 (fun v _ => Q v) = Q (.string ⟨#[37, 70, 70]⟩) := by kernel_rfl
theorem sg4F : FnOK 0 Tryz.prog 10 ⟨[.string ⟨#[255]⟩]⟩ h0 (fun v _ => v = .string ⟨#[37, 70, 70]⟩) := FnOK.ftree ST0_ok mixed Tryz.func10 someSG (sg4 _) rfl
theorem wo4 (Q : Value → Prop) : ffn Tryz.prog ST0 [] 3000 [] Tryz.f22 [.string ⟨#[37, 70, 70]⟩] h0 (fun v _ => Q v) = Q (.tuple ⟨[.agg ⟨[.int .i64 1, .string ⟨#[255]⟩]⟩, .int .i64 0]⟩) := by kernel_rfl
theorem wo4F : FnOK 0 Tryz.prog 22 ⟨[.string ⟨#[37, 70, 70]⟩]⟩ h0 (fun v _ => v = .tuple ⟨[.agg ⟨[.int .i64 1, .string ⟨#[255]⟩]⟩, .int .i64 0]⟩) := FnOK.ftree ST0_ok mixed Tryz.func22 someWO (wo4 _) rfl
theorem iw5 (Q : Value → Prop) : ffn Tryz.prog ST0 [] 3000 [] Tryz.f28 [.string ⟨#[46, 46]⟩] h0 (fun v _ => Q v) = Q (.bool false) := by kernel_rfl
theorem iw5F : FnOK 0 Tryz.prog 28 ⟨[.string ⟨#[46, 46]⟩]⟩ h0 (fun v _ => v = .bool false) := FnOK.ftree ST0_ok mixed Tryz.func28 someIW (iw5 _) rfl
theorem sg5 (Q : Value → Prop) : ffn Tryz.prog ST0 [] 3000 [] Tryz.f10 [.string ⟨#[46, 46]⟩] h0 (fun v _ => Q v) = Q (.string ⟨#[46, 46]⟩) := by kernel_rfl
theorem sg5F : FnOK 0 Tryz.prog 10 ⟨[.string ⟨#[46, 46]⟩]⟩ h0 (fun v _ => v = .string ⟨#[46, 46]⟩) := FnOK.ftree ST0_ok mixed Tryz.func10 someSG (sg5 _) rfl
theorem iw6 (Q : Value → Prop) : ffn Tryz.prog ST0 [] 3000 [] Tryz.f28 [.string ⟨#[123]⟩] h0 (fun v _ => Q v) = Q (.bool false) := by kernel_rfl
theorem iw6F : FnOK 0 Tryz.prog 28 ⟨[.string ⟨#[123]⟩]⟩ h0 (fun v _ => v = .bool false) := FnOK.ftree ST0_ok mixed Tryz.func28 someIW (iw6 _) rfl
theorem sg6 (Q : Value → Prop) : ffn Tryz.prog ST0 [] 3000 [] Tryz.f10 [.string ⟨#[123]⟩] h0 (fun v _ => Q v) = Q (.string ⟨#[37, 55, 66]⟩) := by kernel_rfl
theorem sg6F : FnOK 0 Tryz.prog 10 ⟨[.string ⟨#[123]⟩]⟩ h0 (fun v _ => v = .string ⟨#[37, 55, 66]⟩) := FnOK.ftree ST0_ok mixed Tryz.func10 someSG (sg6 _) rfl
theorem wo6 (Q : Value → Prop) : ffn Tryz.prog ST0 [] 3000 [] Tryz.f22 [.string ⟨#[37, 55, 66]⟩] h0 (fun v _ => Q v) = Q (.tuple ⟨[.agg ⟨[.int .i64 1, .string ⟨#[123]⟩]⟩, .int .i64 0]⟩) := by kernel_rfl
theorem wo6F : FnOK 0 Tryz.prog 22 ⟨[.string ⟨#[37, 55, 66]⟩]⟩ h0 (fun v _ => v = .tuple ⟨[.agg ⟨[.int .i64 1, .string ⟨#[123]⟩]⟩, .int .i64 0]⟩) := FnOK.ftree ST0_ok mixed Tryz.func22 someWO (wo6 _) rfl
theorem iw7 (Q : Value → Prop) : ffn Tryz.prog ST0 [] 3000 [] Tryz.f28 [.string ⟨#[105, 100]⟩] h0 (fun v _ => Q v) = Q (.bool true) := by kernel_rfl
theorem iw7F : FnOK 0 Tryz.prog 28 ⟨[.string ⟨#[105, 100]⟩]⟩ h0 (fun v _ => v = .bool true) := FnOK.ftree ST0_ok mixed Tryz.func28 someIW (iw7 _) rfl
theorem sg7 (Q : Value → Prop) : ffn Tryz.prog ST0 [] 3000 [] Tryz.f10 [.string ⟨#[105, 100]⟩] h0 (fun v _ => Q v) = Q (.string ⟨#[105, 100]⟩) := by kernel_rfl
theorem sg7F : FnOK 0 Tryz.prog 10 ⟨[.string ⟨#[105, 100]⟩]⟩ h0 (fun v _ => v = .string ⟨#[105, 100]⟩) := FnOK.ftree ST0_ok mixed Tryz.func10 someSG (sg7 _) rfl
theorem wo7 (Q : Value → Prop) : ffn Tryz.prog ST0 [] 3000 [] Tryz.f22 [.string ⟨#[105, 100]⟩] h0 (fun v _ => Q v) = Q (.tuple ⟨[.agg ⟨[.int .i64 1, .string ⟨#[105, 100]⟩]⟩, .int .i64 0]⟩) := by kernel_rfl
theorem wo7F : FnOK 0 Tryz.prog 22 ⟨[.string ⟨#[105, 100]⟩]⟩ h0 (fun v _ => v = .tuple ⟨[.agg ⟨[.int .i64 1, .string ⟨#[105, 100]⟩]⟩, .int .i64 0]⟩) := FnOK.ftree ST0_ok mixed Tryz.func22 someWO (wo7 _) rfl
theorem iw8 (Q : Value → Prop) : ffn Tryz.prog ST0 [] 3000 [] Tryz.f28 [.string ⟨#[120]⟩] h0 (fun v _ => Q v) = Q (.bool true) := by kernel_rfl
theorem iw8F : FnOK 0 Tryz.prog 28 ⟨[.string ⟨#[120]⟩]⟩ h0 (fun v _ => v = .bool true) := FnOK.ftree ST0_ok mixed Tryz.func28 someIW (iw8 _) rfl
theorem sg8 (Q : Value → Prop) : ffn Tryz.prog ST0 [] 3000 [] Tryz.f10 [.string ⟨#[120]⟩] h0 (fun v _ => Q v) = Q (.string ⟨#[120]⟩) := by kernel_rfl
theorem sg8F : FnOK 0 Tryz.prog 10 ⟨[.string ⟨#[120]⟩]⟩ h0 (fun v _ => v = .string ⟨#[120]⟩) := FnOK.ftree ST0_ok mixed Tryz.func10 someSG (sg8 _) rfl
theorem wo8 (Q : Value → Prop) : ffn Tryz.prog ST0 [] 3000 [] Tryz.f22 [.string ⟨#[120]⟩] h0 (fun v _ => Q v) = Q (.tuple ⟨[.agg ⟨[.int .i64 1, .string ⟨#[120]⟩]⟩, .int .i64 0]⟩) := by kernel_rfl
theorem wo8F : FnOK 0 Tryz.prog 22 ⟨[.string ⟨#[120]⟩]⟩ h0 (fun v _ => v = .tuple ⟨[.agg ⟨[.int .i64 1, .string ⟨#[120]⟩]⟩, .int .i64 0]⟩) := FnOK.ftree ST0_ok mixed Tryz.func22 someWO (wo8 _) rfl
theorem iw9 (Q : Value → Prop) : ffn Tryz.prog ST0 [] 3000 [] Tryz.f28 [.string ⟨#[114, 101, 115, 116]⟩] h0 (fun v _ => Q v) = Q (.bool true) := by kernel_rfl
theorem iw9F : FnOK 0 Tryz.prog 28 ⟨[.string ⟨#[114, 101, 115, 116]⟩]⟩ h0 (fun v _ => v = .bool true) := FnOK.ftree ST0_ok mixed Tryz.func28 someIW (iw9 _) rfl
theorem sg9 (Q : Value → Prop) : ffn Tryz.prog ST0 [] 3000 [] Tryz.f10 [.string ⟨#[114, 101, 115, 116]⟩] h0 (fun v _ => Q v) = Q (.string ⟨#[114, 101, 115, 116]⟩) := by kernel_rfl
theorem sg9F : FnOK 0 Tryz.prog 10 ⟨[.string ⟨#[114, 101, 115, 116]⟩]⟩ h0 (fun v _ => v = .string ⟨#[114, 101, 115, 116]⟩) := FnOK.ftree ST0_ok mixed Tryz.func10 someSG (sg9 _) rfl
theorem wo9 (Q : Value → Prop) : ffn Tryz.prog ST0 [] 3000 [] Tryz.f22 [.string ⟨#[114, 101, 115, 116]⟩] h0 (fun v _ => Q v) = Q (.tuple ⟨[.agg ⟨[.int .i64 1, .string ⟨#[114, 101, 115, 116]⟩]⟩, .int .i64 0]⟩) := by kernel_rfl
theorem wo9F : FnOK 0 Tryz.prog 22 ⟨[.string ⟨#[114, 101, 115, 116]⟩]⟩ h0 (fun v _ => v = .tuple ⟨[.agg ⟨[.int .i64 1, .string ⟨#[114, 101, 115, 116]⟩]⟩, .int .i64 0]⟩) := FnOK.ftree ST0_ok mixed Tryz.func22 someWO (wo9 _) rfl
theorem iw10 (Q : Value → Prop) : ffn Tryz.prog ST0 [] 3000 [] Tryz.f28 [.string ⟨#[49]⟩] h0 (fun v _ => Q v) = Q (.bool false) := by kernel_rfl
theorem iw10F : FnOK 0 Tryz.prog 28 ⟨[.string ⟨#[49]⟩]⟩ h0 (fun v _ => v = .bool false) := FnOK.ftree ST0_ok mixed Tryz.func28 someIW (iw10 _) rfl
theorem sg10 (Q : Value → Prop) : ffn Tryz.prog ST0 [] 3000 [] Tryz.f10 [.string ⟨#[49]⟩] h0 (fun v _ => Q v) = Q (.string ⟨#[49]⟩) := by kernel_rfl
theorem sg10F : FnOK 0 Tryz.prog 10 ⟨[.string ⟨#[49]⟩]⟩ h0 (fun v _ => v = .string ⟨#[49]⟩) := FnOK.ftree ST0_ok mixed Tryz.func10 someSG (sg10 _) rfl
theorem wo10 (Q : Value → Prop) : ffn Tryz.prog ST0 [] 3000 [] Tryz.f22 [.string ⟨#[49]⟩] h0 (fun v _ => Q v) = Q (.tuple ⟨[.agg ⟨[.int .i64 1, .string ⟨#[49]⟩]⟩, .int .i64 0]⟩) := by kernel_rfl
theorem wo10F : FnOK 0 Tryz.prog 22 ⟨[.string ⟨#[49]⟩]⟩ h0 (fun v _ => v = .tuple ⟨[.agg ⟨[.int .i64 1, .string ⟨#[49]⟩]⟩, .int .i64 0]⟩) := FnOK.ftree ST0_ok mixed Tryz.func22 someWO (wo10 _) rfl
theorem iw11 (Q : Value → Prop) : ffn Tryz.prog ST0 [] 3000 [] Tryz.f28 [.string ⟨#[105, 110]⟩] h0 (fun v _ => Q v) = Q (.bool false) := by kernel_rfl
theorem iw11F : FnOK 0 Tryz.prog 28 ⟨[.string ⟨#[105, 110]⟩]⟩ h0 (fun v _ => v = .bool false) := FnOK.ftree ST0_ok mixed Tryz.func28 someIW (iw11 _) rfl
theorem sg11 (Q : Value → Prop) : ffn Tryz.prog ST0 [] 3000 [] Tryz.f10 [.string ⟨#[105, 110]⟩] h0 (fun v _ => Q v) = Q (.string ⟨#[105, 110]⟩) := by kernel_rfl
theorem sg11F : FnOK 0 Tryz.prog 10 ⟨[.string ⟨#[105, 110]⟩]⟩ h0 (fun v _ => v = .string ⟨#[105, 110]⟩) := FnOK.ftree ST0_ok mixed Tryz.func10 someSG (sg11 _) rfl
theorem wo11 (Q : Value → Prop) : ffn Tryz.prog ST0 [] 3000 [] Tryz.f22 [.string ⟨#[105, 110]⟩] h0 (fun v _ => Q v) = Q (.tuple ⟨[.agg ⟨[.int .i64 1, .string ⟨#[105, 110]⟩]⟩, .int .i64 0]⟩) := by kernel_rfl
theorem wo11F : FnOK 0 Tryz.prog 22 ⟨[.string ⟨#[105, 110]⟩]⟩ h0 (fun v _ => v = .tuple ⟨[.agg ⟨[.int .i64 1, .string ⟨#[105, 110]⟩]⟩, .int .i64 0]⟩) := FnOK.ftree ST0_ok mixed Tryz.func22 someWO (wo11 _) rfl
end Go.Proofs.YtklcapmmogediaaGreatDoor
