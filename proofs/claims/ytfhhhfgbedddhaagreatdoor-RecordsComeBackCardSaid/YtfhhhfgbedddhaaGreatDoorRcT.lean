/-
  Records as lines: keys, by closed runs.
-/
import Derived.Test.YtfhhhfgbedddhaaGreatDoorBase
namespace Go.Proofs.YtfhhhfgbedddhaaGreatDoor
open Go.Ev Go.RowKit

theorem someIK : Tryz.f32.body.isSome = true := by kernel_rfl
theorem someQK : Tryz.f28.body.isSome = true := by kernel_rfl
theorem someDS : Tryz.f37.body.isSome = true := by kernel_rfl
noncomputable def ST0 : SC := ⟨idn, fun _ _ _ => none, false, false⟩
theorem ST0_ok : ST0.cfg.OK Tryz.prog := none_ok.cfg
theorem ik0 (Q : Value → Prop) : ffn Tryz.prog ST0 [] 3000 [] Tryz.f32 [.string ⟨#[]⟩] h0 (fun v _ => Q v) = Q (.bool false) := by kernel_rfl
theorem ik0F : FnOK 0 Tryz.prog 32 ⟨[.string ⟨#[]⟩]⟩ h0 (fun v _ => v = .bool false) := FnOK.ftree ST0_ok mixed Tryz.func32 someIK (ik0 _) rfl
theorem qk0 (Q : Value → Prop) : ffn Tryz.prog ST0 [] 3000 [] Tryz.f28 [.string ⟨#[]⟩] h0 (fun v _ => Q v) = Q (.bool false) := by kernel_rfl
theorem qk0F : FnOK 0 Tryz.prog 28 ⟨[.string ⟨#[]⟩]⟩ h0 (fun v _ => v = .bool false) := FnOK.ftree ST0_ok mixed Tryz.func28 someQK (qk0 _) rfl
theorem ds0 (Q : Value → Prop) : ffn Tryz.prog ST0 [] 3000 [] Tryz.f37 [.string ⟨#[]⟩] h0 (fun v _ => Q v) = Q (.string ⟨#[45]⟩) := by kernel_rfl
theorem ds0F : FnOK 0 Tryz.prog 37 ⟨[.string ⟨#[]⟩]⟩ h0 (fun v _ => v = .string ⟨#[45]⟩) := FnOK.ftree ST0_ok mixed Tryz.func37 someDS (ds0 _) rfl
theorem ik1 (Q : Value → Prop) : ffn Tryz.prog ST0 [] 3000 [] Tryz.f32 [.string ⟨#[114, 97]⟩] h0 (fun v _ => Q v) = Q (.bool true) := by kernel_rfl
theorem ik1F : FnOK 0 Tryz.prog 32 ⟨[.string ⟨#[114, 97]⟩]⟩ h0 (fun v _ => v = .bool true) := FnOK.ftree ST0_ok mixed Tryz.func32 someIK (ik1 _) rfl
theorem qk1 (Q : Value → Prop) : ffn Tryz.prog ST0 [] 3000 [] Tryz.f28 [.string ⟨#[114, 97]⟩] h0 (fun v _ => Q v) = Q (.bool true) := by kernel_rfl
theorem qk1F : FnOK 0 Tryz.prog 28 ⟨[.string ⟨#[114, 97]⟩]⟩ h0 (fun v _ => v = .bool true) := FnOK.ftree ST0_ok mixed Tryz.func28 someQK (qk1 _) rfl
theorem ds1 (Q : Value → Prop) : ffn Tryz.prog ST0 [] 3000 [] Tryz.f37 [.string ⟨#[114, 97]⟩] h0 (fun v _ => Q v) = Q (.string ⟨#[114, 97]⟩) := by kernel_rfl
theorem ds1F : FnOK 0 Tryz.prog 37 ⟨[.string ⟨#[114, 97]⟩]⟩ h0 (fun v _ => v = .string ⟨#[114, 97]⟩) := FnOK.ftree ST0_ok mixed Tryz.func37 someDS (ds1 _) rfl
theorem ik2 (Q : Value → Prop) : ffn Tryz.prog ST0 [] 3000 [] Tryz.f32 [.string ⟨#[114, 98]⟩] h0 (fun v _ => Q v) = Q (.bool true) := by kernel_rfl
theorem ik2F : FnOK 0 Tryz.prog 32 ⟨[.string ⟨#[114, 98]⟩]⟩ h0 (fun v _ => v = .bool true) := FnOK.ftree ST0_ok mixed Tryz.func32 someIK (ik2 _) rfl
theorem qk2 (Q : Value → Prop) : ffn Tryz.prog ST0 [] 3000 [] Tryz.f28 [.string ⟨#[114, 98]⟩] h0 (fun v _ => Q v) = Q (.bool true) := by kernel_rfl
theorem qk2F : FnOK 0 Tryz.prog 28 ⟨[.string ⟨#[114, 98]⟩]⟩ h0 (fun v _ => v = .bool true) := FnOK.ftree ST0_ok mixed Tryz.func28 someQK (qk2 _) rfl
theorem ds2 (Q : Value → Prop) : ffn Tryz.prog ST0 [] 3000 [] Tryz.f37 [.string ⟨#[114, 98]⟩] h0 (fun v _ => Q v) = Q (.string ⟨#[114, 98]⟩) := by kernel_rfl
theorem ds2F : FnOK 0 Tryz.prog 37 ⟨[.string ⟨#[114, 98]⟩]⟩ h0 (fun v _ => v = .string ⟨#[114, 98]⟩) := FnOK.ftree ST0_ok mixed Tryz.func37 someDS (ds2 _) rfl
theorem ik3 (Q : Value → Prop) : ffn Tryz.prog ST0 [] 3000 [] Tryz.f32 [.string ⟨#[122, 122]⟩] h0 (fun v _ => Q v) = Q (.bool true) := by kernel_rfl
theorem ik3F : FnOK 0 Tryz.prog 32 ⟨[.string ⟨#[122, 122]⟩]⟩ h0 (fun v _ => v = .bool true) := FnOK.ftree ST0_ok mixed Tryz.func32 someIK (ik3 _) rfl
theorem qk3 (Q : Value → Prop) : ffn Tryz.prog ST0 [] 3000 [] Tryz.f28 [.string ⟨#[122, 122]⟩] h0 (fun v _ => Q v) = Q (.bool true) := by kernel_rfl
theorem qk3F : FnOK 0 Tryz.prog 28 ⟨[.string ⟨#[122, 122]⟩]⟩ h0 (fun v _ => v = .bool true) := FnOK.ftree ST0_ok mixed Tryz.func28 someQK (qk3 _) rfl
theorem ds3 (Q : Value → Prop) : ffn Tryz.prog ST0 [] 3000 [] Tryz.f37 [.string ⟨#[122, 122]⟩] h0 (fun v _ => Q v) = Q (.string ⟨#[122, 122]⟩) := by kernel_rfl
theorem ds3F : FnOK 0 Tryz.prog 37 ⟨[.string ⟨#[122, 122]⟩]⟩ h0 (fun v _ => v = .string ⟨#[122, 122]⟩) := FnOK.ftree ST0_ok mixed Tryz.func37 someDS (ds3 _) rfl
theorem ik4 (Q : Value → Prop) : ffn Tryz.prog ST0 [] 3000 [] Tryz.f32 [.string ⟨#[97, 112, 112, 49]⟩] h0 (fun v _ => Q v) = Q (.bool true) := by kernel_rfl
theorem ik4F : FnOK 0 Tryz.prog 32 ⟨[.string ⟨#[97, 112, 112, 49]⟩]⟩ h0 (fun v _ => v = .bool true) := FnOK.ftree ST0_ok mixed Tryz.func32 someIK (ik4 _) rfl
theorem qk4 (Q : Value → Prop) : ffn Tryz.prog ST0 [] 3000 [] Tryz.f28 [.string ⟨#[97, 112, 112, 49]⟩] h0 (fun v _ => Q v) = Q (.bool true) := by kernel_rfl
theorem qk4F : FnOK 0 Tryz.prog 28 ⟨[.string ⟨#[97, 112, 112, 49]⟩]⟩ h0 (fun v _ => v = .bool true) := FnOK.ftree ST0_ok mixed Tryz.func28 someQK (qk4 _) rfl
theorem ds4 (Q : Value → Prop) : ffn Tryz.prog ST0 [] 3000 [] Tryz.f37 [.string ⟨#[97, 112, 112, 49]⟩] h0 (fun v _ => Q v) = Q (.string ⟨#[97, 112, 112, 49]⟩) := by kernel_rfl
theorem ds4F : FnOK 0 Tryz.prog 37 ⟨[.string ⟨#[97, 112, 112, 49]⟩]⟩ h0 (fun v _ => v = .string ⟨#[97, 112, 112, 49]⟩) := FnOK.ftree ST0_ok mixed Tryz.func37 someDS (ds4 _) rfl
theorem ik5 (Q : Value → Prop) : ffn Tryz.prog ST0 [] 3000 [] Tryz.f32 [.string ⟨#[97, 112, 112, 50]⟩] h0 (fun v _ => Q v) = Q (.bool true) := by kernel_rfl
theorem ik5F : FnOK 0 Tryz.prog 32 ⟨[.string ⟨#[97, 112, 112, 50]⟩]⟩ h0 (fun v _ => v = .bool true) := FnOK.ftree ST0_ok mixed Tryz.func32 someIK (ik5 _) rfl
theorem qk5 (Q : Value → Prop) : ffn Tryz.prog ST0 [] 3000 [] Tryz.f28 [.string ⟨#[97, 112, 112, 50]⟩] h0 (fun v _ => Q v) = Q (.bool true) := by kernel_rfl
theorem qk5F : FnOK 0 Tryz.prog 28 ⟨[.string ⟨#[97, 112, 112, 50]⟩]⟩ h0 (fun v _ => v = .bool true) := FnOK.ftree ST0_ok mixed Tryz.func28 someQK (qk5 _) rfl
theorem ds5 (Q : Value → Prop) : ffn Tryz.prog ST0 [] 3000 [] Tryz.f37 [.string ⟨#[97, 112, 112, 50]⟩] h0 (fun v _ => Q v) = Q (.string ⟨#[97, 112, 112, 50]⟩) := by kernel_rfl
theorem ds5F : FnOK 0 Tryz.prog 37 ⟨[.string ⟨#[97, 112, 112, 50]⟩]⟩ h0 (fun v _ => v = .string ⟨#[97, 112, 112, 50]⟩) := FnOK.ftree ST0_ok mixed Tryz.func37 someDS (ds5 _) rfl
theorem ik6 (Q : Value → Prop) : ffn Tryz.prog ST0 [] 3000 [] Tryz.f32 [.string ⟨#[111, 110, 101]⟩] h0 (fun v _ => Q v) = Q (.bool true) := by kernel_rfl
theorem ik6F : FnOK 0 Tryz.prog 32 ⟨[.string ⟨#[111, 110, 101]⟩]⟩ h0 (fun v _ => v = .bool true) := FnOK.ftree ST0_ok mixed Tryz.func32 someIK (ik6 _) rfl
theorem qk6 (Q : Value → Prop) : ffn Tryz.prog ST0 [] 3000 [] Tryz.f28 [.string ⟨#[111, 110, 101]⟩] h0 (fun v _ => Q v) = Q (.bool true) := by kernel_rfl
theorem qk6F : FnOK 0 Tryz.prog 28 ⟨[.string ⟨#[111, 110, 101]⟩]⟩ h0 (fun v _ => v = .bool true) := FnOK.ftree ST0_ok mixed Tryz.func28 someQK (qk6 _) rfl
theorem ds6 (Q : Value → Prop) : ffn Tryz.prog ST0 [] 3000 [] Tryz.f37 [.string ⟨#[111, 110, 101]⟩] h0 (fun v _ => Q v) = Q (.string ⟨#[111, 110, 101]⟩) := by kernel_rfl
theorem ds6F : FnOK 0 Tryz.prog 37 ⟨[.string ⟨#[111, 110, 101]⟩]⟩ h0 (fun v _ => v = .string ⟨#[111, 110, 101]⟩) := FnOK.ftree ST0_ok mixed Tryz.func37 someDS (ds6 _) rfl
theorem ik7 (Q : Value → Prop) : ffn Tryz.prog ST0 [] 3000 [] Tryz.f32 [.string ⟨#[105, 97]⟩] h0 (fun v _ => Q v) = Q (.bool true) := by kernel_rfl
theorem ik7F : FnOK 0 Tryz.prog 32 ⟨[.string ⟨#[105, 97]⟩]⟩ h0 (fun v _ => v = .bool true) := FnOK.ftree ST0_ok mixed Tryz.func32 someIK (ik7 _) rfl
theorem qk7 (Q : Value → Prop) : ffn Tryz.prog ST0 [] 3000 [] Tryz.f28 [.string ⟨#[105, 97]⟩] h0 (fun v _ => Q v) = Q (.bool true) := by kernel_rfl
theorem qk7F : FnOK 0 Tryz.prog 28 ⟨[.string ⟨#[105, 97]⟩]⟩ h0 (fun v _ => v = .bool true) := FnOK.ftree ST0_ok mixed Tryz.func28 someQK (qk7 _) rfl
theorem ds7 (Q : Value → Prop) : ffn Tryz.prog ST0 [] 3000 [] Tryz.f37 [.string ⟨#[105, 97]⟩] h0 (fun v _ => Q v) = Q (.string ⟨#[105, 97]⟩) := by kernel_rfl
theorem ds7F : FnOK 0 Tryz.prog 37 ⟨[.string ⟨#[105, 97]⟩]⟩ h0 (fun v _ => v = .string ⟨#[105, 97]⟩) := FnOK.ftree ST0_ok mixed Tryz.func37 someDS (ds7 _) rfl
theorem ik8 (Q : Value → Prop) : ffn Tryz.prog ST0 [] 3000 [] Tryz.f32 [.string ⟨#[65]⟩] h0 (fun v _ => Q v) = Q (.bool false) := by kernel_rfl
theorem ik8F : FnOK 0 Tryz.prog 32 ⟨[.string ⟨#[65]⟩]⟩ h0 (fun v _ => v = .bool false) := FnOK.ftree ST0_ok mixed Tryz.func32 someIK (ik8 _) rfl
theorem qk8 (Q : Value → Prop) : ffn Tryz.prog ST0 [] 3000 [] Tryz.f28 [.string ⟨#[65]⟩] h0 (fun v _ => Q v) = Q (.bool false) := by kernel_rfl
theorem qk8F : FnOK 0 Tryz.prog 28 ⟨[.string ⟨#[65]⟩]⟩ h0 (fun v _ => v = .bool false) := FnOK.ftree ST0_ok mixed Tryz.func28 someQK (qk8 _) rfl
theorem ds8 (Q : Value → Prop) : ffn Tryz.prog ST0 [] 3000 [] Tryz.f37 [.string ⟨#[65]⟩] h0 (fun v _ => Q v) = Q (.string ⟨#[45]⟩) := by kernel_rfl
theorem ds8F : FnOK 0 Tryz.prog 37 ⟨[.string ⟨#[65]⟩]⟩ h0 (fun v _ => v = .string ⟨#[45]⟩) := FnOK.ftree ST0_ok mixed Tryz.func37 someDS (ds8 _) rfl
theorem ik9 (Q : Value → Prop) : ffn Tryz.prog ST0 [] 3000 [] Tryz.f32 [.string ⟨#[45]⟩] h0 (fun v _ => Q v) = Q (.bool false) := by kernel_rfl
theorem ik9F : FnOK 0 Tryz.prog 32 ⟨[.string ⟨#[45]⟩]⟩ h0 (fun v _ => v = .bool false) := FnOK.ftree ST0_ok mixed Tryz.func32 someIK (ik9 _) rfl
theorem qk9 (Q : Value → Prop) : ffn Tryz.prog ST0 [] 3000 [] Tryz.f28 [.string ⟨#[45]⟩] h0 (fun v _ => Q v) = Q (.bool false) := by kernel_rfl
theorem qk9F : FnOK 0 Tryz.prog 28 ⟨[.string ⟨#[45]⟩]⟩ h0 (fun v _ => v = .bool false) := FnOK.ftree ST0_ok mixed Tryz.func28 someQK (qk9 _) rfl
theorem ds9 (Q : Value → Prop) : ffn Tryz.prog ST0 [] 3000 [] Tryz.f37 [.string ⟨#[45]⟩] h0 (fun v _ => Q v) = Q (.string ⟨#[45]⟩) := by kernel_rfl
theorem ds9F : FnOK 0 Tryz.prog 37 ⟨[.string ⟨#[45]⟩]⟩ h0 (fun v _ => v = .string ⟨#[45]⟩) := FnOK.ftree ST0_ok mixed Tryz.func37 someDS (ds9 _) rfl
end Go.Proofs.YtfhhhfgbedddhaaGreatDoor
