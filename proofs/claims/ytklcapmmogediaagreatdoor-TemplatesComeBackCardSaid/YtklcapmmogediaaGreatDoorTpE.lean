/-
  Templates: paramOf as a specification.
-/
import Derived.Test.YtklcapmmogediaaGreatDoorTpD
namespace Go.Proofs.YtklcapmmogediaaGreatDoor
open Go.Ev Go.RowKit TplLaw

theorem somePO : Tryz.f21.body.isSome = true := by kernel_rfl
theorem po200 (last : Bool) (Q : Value → Prop) : ffn Tryz.prog SP0 [] 600 [] Tryz.f21 [.string ⟨#[123, 97, 125]⟩, .slice none 0 0, .bool last] h0 (fun v _ => Q v) = (Q (.tuple ⟨[pv 2 (bl [97]), .int .i64 0]⟩)) := by kernel_rfl
theorem po201 (k0 : Int) (s0 : ByteArray) (last : Bool) (Q : Value → Option Obj → Prop) : ffn Tryz.prog SP0 [] 600 [] Tryz.f21 [.string ⟨#[123, 97, 125]⟩, .slice (some ⟨0, 0, none⟩) 1 1, .bool last] (⟨1, 1, [(0, .cells ⟨[.int .i64 k0, .string s0]⟩ 40 (0, 0))]⟩ : AH) (fun v h => Q v (h.get 0)) = (h1T k0 s0 (bl [97]) (Q (.tuple ⟨[pv 0 ⟨#[]⟩, .int .i64 6]⟩) (some (.cells ⟨[.int .i64 k0, .string s0]⟩ 40 (0, 0)))) (Q (.tuple ⟨[pv 2 (bl [97]), .int .i64 0]⟩) (some (.cells ⟨[.int .i64 k0, .string s0]⟩ 40 (0, 0))))) := by kernel_rfl
theorem po202 (k0 : Int) (s0 : ByteArray) (k1 : Int) (s1 : ByteArray) (last : Bool) (Q : Value → Option Obj → Prop) : ffn Tryz.prog SP0 [] 600 [] Tryz.f21 [.string ⟨#[123, 97, 125]⟩, .slice (some ⟨0, 0, none⟩) 2 2, .bool last] (⟨1, 1, [(0, .cells ⟨[.int .i64 k0, .string s0, .int .i64 k1, .string s1]⟩ 40 (0, 0))]⟩ : AH) (fun v h => Q v (h.get 0)) = (h1T k0 s0 (bl [97]) (Q (.tuple ⟨[pv 0 ⟨#[]⟩, .int .i64 6]⟩) (some (.cells ⟨[.int .i64 k0, .string s0, .int .i64 k1, .string s1]⟩ 40 (0, 0)))) (h1T k1 s1 (bl [97]) (Q (.tuple ⟨[pv 0 ⟨#[]⟩, .int .i64 6]⟩) (some (.cells ⟨[.int .i64 k0, .string s0, .int .i64 k1, .string s1]⟩ 40 (0, 0)))) (Q (.tuple ⟨[pv 2 (bl [97]), .int .i64 0]⟩) (some (.cells ⟨[.int .i64 k0, .string s0, .int .i64 k1, .string s1]⟩ 40 (0, 0)))))) := by kernel_rfl
theorem po210 (last : Bool) (Q : Value → Prop) : ffn Tryz.prog SP0 [] 600 [] Tryz.f21 [.string ⟨#[123, 105, 100, 125]⟩, .slice none 0 0, .bool last] h0 (fun v _ => Q v) = (Q (.tuple ⟨[pv 2 (bl [105, 100]), .int .i64 0]⟩)) := by kernel_rfl
theorem po211 (k0 : Int) (s0 : ByteArray) (last : Bool) (Q : Value → Option Obj → Prop) : ffn Tryz.prog SP0 [] 600 [] Tryz.f21 [.string ⟨#[123, 105, 100, 125]⟩, .slice (some ⟨0, 0, none⟩) 1 1, .bool last] (⟨1, 1, [(0, .cells ⟨[.int .i64 k0, .string s0]⟩ 40 (0, 0))]⟩ : AH) (fun v h => Q v (h.get 0)) = (h1T k0 s0 (bl [105, 100]) (Q (.tuple ⟨[pv 0 ⟨#[]⟩, .int .i64 6]⟩) (some (.cells ⟨[.int .i64 k0, .string s0]⟩ 40 (0, 0)))) (Q (.tuple ⟨[pv 2 (bl [105, 100]), .int .i64 0]⟩) (some (.cells ⟨[.int .i64 k0, .string s0]⟩ 40 (0, 0))))) := by kernel_rfl
theorem po212 (k0 : Int) (s0 : ByteArray) (k1 : Int) (s1 : ByteArray) (last : Bool) (Q : Value → Option Obj → Prop) : ffn Tryz.prog SP0 [] 600 [] Tryz.f21 [.string ⟨#[123, 105, 100, 125]⟩, .slice (some ⟨0, 0, none⟩) 2 2, .bool last] (⟨1, 1, [(0, .cells ⟨[.int .i64 k0, .string s0, .int .i64 k1, .string s1]⟩ 40 (0, 0))]⟩ : AH) (fun v h => Q v (h.get 0)) = (h1T k0 s0 (bl [105, 100]) (Q (.tuple ⟨[pv 0 ⟨#[]⟩, .int .i64 6]⟩) (some (.cells ⟨[.int .i64 k0, .string s0, .int .i64 k1, .string s1]⟩ 40 (0, 0)))) (h1T k1 s1 (bl [105, 100]) (Q (.tuple ⟨[pv 0 ⟨#[]⟩, .int .i64 6]⟩) (some (.cells ⟨[.int .i64 k0, .string s0, .int .i64 k1, .string s1]⟩ 40 (0, 0)))) (Q (.tuple ⟨[pv 2 (bl [105, 100]), .int .i64 0]⟩) (some (.cells ⟨[.int .i64 k0, .string s0, .int .i64 k1, .string s1]⟩ 40 (0, 0)))))) := by kernel_rfl
theorem po220 (last : Bool) (Q : Value → Prop) : ffn Tryz.prog SP0 [] 600 [] Tryz.f21 [.string ⟨#[123, 120, 125]⟩, .slice none 0 0, .bool last] h0 (fun v _ => Q v) = (Q (.tuple ⟨[pv 2 (bl [120]), .int .i64 0]⟩)) := by kernel_rfl
theorem po221 (k0 : Int) (s0 : ByteArray) (last : Bool) (Q : Value → Option Obj → Prop) : ffn Tryz.prog SP0 [] 600 [] Tryz.f21 [.string ⟨#[123, 120, 125]⟩, .slice (some ⟨0, 0, none⟩) 1 1, .bool last] (⟨1, 1, [(0, .cells ⟨[.int .i64 k0, .string s0]⟩ 40 (0, 0))]⟩ : AH) (fun v h => Q v (h.get 0)) = (h1T k0 s0 (bl [120]) (Q (.tuple ⟨[pv 0 ⟨#[]⟩, .int .i64 6]⟩) (some (.cells ⟨[.int .i64 k0, .string s0]⟩ 40 (0, 0)))) (Q (.tuple ⟨[pv 2 (bl [120]), .int .i64 0]⟩) (some (.cells ⟨[.int .i64 k0, .string s0]⟩ 40 (0, 0))))) := by kernel_rfl
theorem po222 (k0 : Int) (s0 : ByteArray) (k1 : Int) (s1 : ByteArray) (last : Bool) (Q : Value → Option Obj → Prop) : ffn Tryz.prog SP0 [] 600 [] Tryz.f21 [.string ⟨#[123, 120, 125]⟩, .slice (some ⟨0, 0, none⟩) 2 2, .bool last] (⟨1, 1, [(0, .cells ⟨[.int .i64 k0, .string s0, .int .i64 k1, .string s1]⟩ 40 (0, 0))]⟩ : AH) (fun v h => Q v (h.get 0)) = (h1T k0 s0 (bl [120]) (Q (.tuple ⟨[pv 0 ⟨#[]⟩, .int .i64 6]⟩) (some (.cells ⟨[.int .i64 k0, .string s0, .int .i64 k1, .string s1]⟩ 40 (0, 0)))) (h1T k1 s1 (bl [120]) (Q (.tuple ⟨[pv 0 ⟨#[]⟩, .int .i64 6]⟩) (some (.cells ⟨[.int .i64 k0, .string s0, .int .i64 k1, .string s1]⟩ 40 (0, 0)))) (Q (.tuple ⟨[pv 2 (bl [120]), .int .i64 0]⟩) (some (.cells ⟨[.int .i64 k0, .string s0, .int .i64 k1, .string s1]⟩ 40 (0, 0)))))) := by kernel_rfl
theorem po230 (last : Bool) (Q : Value → Prop) : ffn Tryz.prog SP0 [] 600 [] Tryz.f21 [.string ⟨#[123, 114, 101, 115, 116, 125]⟩, .slice none 0 0, .bool last] h0 (fun v _ => Q v) = (Q (.tuple ⟨[pv 2 (bl [114, 101, 115, 116]), .int .i64 0]⟩)) := by kernel_rfl
theorem po231 (k0 : Int) (s0 : ByteArray) (last : Bool) (Q : Value → Option Obj → Prop) : ffn Tryz.prog SP0 [] 600 [] Tryz.f21 [.string ⟨#[123, 114, 101, 115, 116, 125]⟩, .slice (some ⟨0, 0, none⟩) 1 1, .bool last] (⟨1, 1, [(0, .cells ⟨[.int .i64 k0, .string s0]⟩ 40 (0, 0))]⟩ : AH) (fun v h => Q v (h.get 0)) = (h1T k0 s0 (bl [114, 101, 115, 116]) (Q (.tuple ⟨[pv 0 ⟨#[]⟩, .int .i64 6]⟩) (some (.cells ⟨[.int .i64 k0, .string s0]⟩ 40 (0, 0)))) (Q (.tuple ⟨[pv 2 (bl [114, 101, 115, 116]), .int .i64 0]⟩) (some (.cells ⟨[.int .i64 k0, .string s0]⟩ 40 (0, 0))))) := by kernel_rfl
theorem po232 (k0 : Int) (s0 : ByteArray) (k1 : Int) (s1 : ByteArray) (last : Bool) (Q : Value → Option Obj → Prop) : ffn Tryz.prog SP0 [] 600 [] Tryz.f21 [.string ⟨#[123, 114, 101, 115, 116, 125]⟩, .slice (some ⟨0, 0, none⟩) 2 2, .bool last] (⟨1, 1, [(0, .cells ⟨[.int .i64 k0, .string s0, .int .i64 k1, .string s1]⟩ 40 (0, 0))]⟩ : AH) (fun v h => Q v (h.get 0)) = (h1T k0 s0 (bl [114, 101, 115, 116]) (Q (.tuple ⟨[pv 0 ⟨#[]⟩, .int .i64 6]⟩) (some (.cells ⟨[.int .i64 k0, .string s0, .int .i64 k1, .string s1]⟩ 40 (0, 0)))) (h1T k1 s1 (bl [114, 101, 115, 116]) (Q (.tuple ⟨[pv 0 ⟨#[]⟩, .int .i64 6]⟩) (some (.cells ⟨[.int .i64 k0, .string s0, .int .i64 k1, .string s1]⟩ 40 (0, 0)))) (Q (.tuple ⟨[pv 2 (bl [114, 101, 115, 116]), .int .i64 0]⟩) (some (.cells ⟨[.int .i64 k0, .string s0, .int .i64 k1, .string s1]⟩ 40 (0, 0)))))) := by kernel_rfl
theorem po300 (last : Bool) (Q : Value → Prop) : ffn Tryz.prog SP0 [] 600 [] Tryz.f21 [.string ⟨#[123, 97, 42, 125]⟩, .slice none 0 0, .bool last] h0 (fun v _ => Q v) = (bif !last then Q (.tuple ⟨[pv 0 ⟨#[]⟩, .int .i64 7]⟩) else Q (.tuple ⟨[pv 3 (bl [97]), .int .i64 0]⟩)) := by kernel_rfl
theorem po301 (k0 : Int) (s0 : ByteArray) (last : Bool) (Q : Value → Option Obj → Prop) : ffn Tryz.prog SP0 [] 600 [] Tryz.f21 [.string ⟨#[123, 97, 42, 125]⟩, .slice (some ⟨0, 0, none⟩) 1 1, .bool last] (⟨1, 1, [(0, .cells ⟨[.int .i64 k0, .string s0]⟩ 40 (0, 0))]⟩ : AH) (fun v h => Q v (h.get 0)) = (h1T k0 s0 (bl [97]) (Q (.tuple ⟨[pv 0 ⟨#[]⟩, .int .i64 6]⟩) (some (.cells ⟨[.int .i64 k0, .string s0]⟩ 40 (0, 0)))) (bif !last then Q (.tuple ⟨[pv 0 ⟨#[]⟩, .int .i64 7]⟩) (some (.cells ⟨[.int .i64 k0, .string s0]⟩ 40 (0, 0))) else Q (.tuple ⟨[pv 3 (bl [97]), .int .i64 0]⟩) (some (.cells ⟨[.int .i64 k0, .string s0]⟩ 40 (0, 0))))) := by kernel_rfl
theorem po302 (k0 : Int) (s0 : ByteArray) (k1 : Int) (s1 : ByteArray) (last : Bool) (Q : Value → Option Obj → Prop) : ffn Tryz.prog SP0 [] 600 [] Tryz.f21 [.string ⟨#[123, 97, 42, 125]⟩, .slice (some ⟨0, 0, none⟩) 2 2, .bool last] (⟨1, 1, [(0, .cells ⟨[.int .i64 k0, .string s0, .int .i64 k1, .string s1]⟩ 40 (0, 0))]⟩ : AH) (fun v h => Q v (h.get 0)) = (h1T k0 s0 (bl [97]) (Q (.tuple ⟨[pv 0 ⟨#[]⟩, .int .i64 6]⟩) (some (.cells ⟨[.int .i64 k0, .string s0, .int .i64 k1, .string s1]⟩ 40 (0, 0)))) (h1T k1 s1 (bl [97]) (Q (.tuple ⟨[pv 0 ⟨#[]⟩, .int .i64 6]⟩) (some (.cells ⟨[.int .i64 k0, .string s0, .int .i64 k1, .string s1]⟩ 40 (0, 0)))) (bif !last then Q (.tuple ⟨[pv 0 ⟨#[]⟩, .int .i64 7]⟩) (some (.cells ⟨[.int .i64 k0, .string s0, .int .i64 k1, .string s1]⟩ 40 (0, 0))) else Q (.tuple ⟨[pv 3 (bl [97]), .int .i64 0]⟩) (some (.cells ⟨[.int .i64 k0, .string s0, .int .i64 k1, .string s1]⟩ 40 (0, 0)))))) := by kernel_rfl
theorem po310 (last : Bool) (Q : Value → Prop) : ffn Tryz.prog SP0 [] 600 [] Tryz.f21 [.string ⟨#[123, 105, 100, 42, 125]⟩, .slice none 0 0, .bool last] h0 (fun v _ => Q v) = (bif !last then Q (.tuple ⟨[pv 0 ⟨#[]⟩, .int .i64 7]⟩) else Q (.tuple ⟨[pv 3 (bl [105, 100]), .int .i64 0]⟩)) := by kernel_rfl
theorem po311 (k0 : Int) (s0 : ByteArray) (last : Bool) (Q : Value → Option Obj → Prop) : ffn Tryz.prog SP0 [] 600 [] Tryz.f21 [.string ⟨#[123, 105, 100, 42, 125]⟩, .slice (some ⟨0, 0, none⟩) 1 1, .bool last] (⟨1, 1, [(0, .cells ⟨[.int .i64 k0, .string s0]⟩ 40 (0, 0))]⟩ : AH) (fun v h => Q v (h.get 0)) = (h1T k0 s0 (bl [105, 100]) (Q (.tuple ⟨[pv 0 ⟨#[]⟩, .int .i64 6]⟩) (some (.cells ⟨[.int .i64 k0, .string s0]⟩ 40 (0, 0)))) (bif !last then Q (.tuple ⟨[pv 0 ⟨#[]⟩, .int .i64 7]⟩) (some (.cells ⟨[.int .i64 k0, .string s0]⟩ 40 (0, 0))) else Q (.tuple ⟨[pv 3 (bl [105, 100]), .int .i64 0]⟩) (some (.cells ⟨[.int .i64 k0, .string s0]⟩ 40 (0, 0))))) := by kernel_rfl
theorem po312 (k0 : Int) (s0 : ByteArray) (k1 : Int) (s1 : ByteArray) (last : Bool) (Q : Value → Option Obj → Prop) : ffn Tryz.prog SP0 [] 600 [] Tryz.f21 [.string ⟨#[123, 105, 100, 42, 125]⟩, .slice (some ⟨0, 0, none⟩) 2 2, .bool last] (⟨1, 1, [(0, .cells ⟨[.int .i64 k0, .string s0, .int .i64 k1, .string s1]⟩ 40 (0, 0))]⟩ : AH) (fun v h => Q v (h.get 0)) = (h1T k0 s0 (bl [105, 100]) (Q (.tuple ⟨[pv 0 ⟨#[]⟩, .int .i64 6]⟩) (some (.cells ⟨[.int .i64 k0, .string s0, .int .i64 k1, .string s1]⟩ 40 (0, 0)))) (h1T k1 s1 (bl [105, 100]) (Q (.tuple ⟨[pv 0 ⟨#[]⟩, .int .i64 6]⟩) (some (.cells ⟨[.int .i64 k0, .string s0, .int .i64 k1, .string s1]⟩ 40 (0, 0)))) (bif !last then Q (.tuple ⟨[pv 0 ⟨#[]⟩, .int .i64 7]⟩) (some (.cells ⟨[.int .i64 k0, .string s0, .int .i64 k1, .string s1]⟩ 40 (0, 0))) else Q (.tuple ⟨[pv 3 (bl [105, 100]), .int .i64 0]⟩) (some (.cells ⟨[.int .i64 k0, .string s0, .int .i64 k1, .string s1]⟩ 40 (0, 0)))))) := by kernel_rfl
theorem po320 (last : Bool) (Q : Value → Prop) : ffn Tryz.prog SP0 [] 600 [] Tryz.f21 [.string ⟨#[123, 120, 42, 125]⟩, .slice none 0 0, .bool last] h0 (fun v _ => Q v) = (bif !last then Q (.tuple ⟨[pv 0 ⟨#[]⟩, .int .i64 7]⟩) else Q (.tuple ⟨[pv 3 (bl [120]), .int .i64 0]⟩)) := by kernel_rfl
theorem po321 (k0 : Int) (s0 : ByteArray) (last : Bool) (Q : Value → Option Obj → Prop) : ffn Tryz.prog SP0 [] 600 [] Tryz.f21 [.string ⟨#[123, 120, 42, 125]⟩, .slice (some ⟨0, 0, none⟩) 1 1, .bool last] (⟨1, 1, [(0, .cells ⟨[.int .i64 k0, .string s0]⟩ 40 (0, 0))]⟩ : AH) (fun v h => Q v (h.get 0)) = (h1T k0 s0 (bl [120]) (Q (.tuple ⟨[pv 0 ⟨#[]⟩, .int .i64 6]⟩) (some (.cells ⟨[.int .i64 k0, .string s0]⟩ 40 (0, 0)))) (bif !last then Q (.tuple ⟨[pv 0 ⟨#[]⟩, .int .i64 7]⟩) (some (.cells ⟨[.int .i64 k0, .string s0]⟩ 40 (0, 0))) else Q (.tuple ⟨[pv 3 (bl [120]), .int .i64 0]⟩) (some (.cells ⟨[.int .i64 k0, .string s0]⟩ 40 (0, 0))))) := by kernel_rfl
theorem po322 (k0 : Int) (s0 : ByteArray) (k1 : Int) (s1 : ByteArray) (last : Bool) (Q : Value → Option Obj → Prop) : ffn Tryz.prog SP0 [] 600 [] Tryz.f21 [.string ⟨#[123, 120, 42, 125]⟩, .slice (some ⟨0, 0, none⟩) 2 2, .bool last] (⟨1, 1, [(0, .cells ⟨[.int .i64 k0, .string s0, .int .i64 k1, .string s1]⟩ 40 (0, 0))]⟩ : AH) (fun v h => Q v (h.get 0)) = (h1T k0 s0 (bl [120]) (Q (.tuple ⟨[pv 0 ⟨#[]⟩, .int .i64 6]⟩) (some (.cells ⟨[.int .i64 k0, .string s0, .int .i64 k1, .string s1]⟩ 40 (0, 0)))) (h1T k1 s1 (bl [120]) (Q (.tuple ⟨[pv 0 ⟨#[]⟩, .int .i64 6]⟩) (some (.cells ⟨[.int .i64 k0, .string s0, .int .i64 k1, .string s1]⟩ 40 (0, 0)))) (bif !last then Q (.tuple ⟨[pv 0 ⟨#[]⟩, .int .i64 7]⟩) (some (.cells ⟨[.int .i64 k0, .string s0, .int .i64 k1, .string s1]⟩ 40 (0, 0))) else Q (.tuple ⟨[pv 3 (bl [120]), .int .i64 0]⟩) (some (.cells ⟨[.int .i64 k0, .string s0, .int .i64 k1, .string s1]⟩ 40 (0, 0)))))) := by kernel_rfl
theorem po330 (last : Bool) (Q : Value → Prop) : ffn Tryz.prog SP0 [] 600 [] Tryz.f21 [.string ⟨#[123, 114, 101, 115, 116, 42, 125]⟩, .slice none 0 0, .bool last] h0 (fun v _ => Q v) = (bif !last then Q (.tuple ⟨[pv 0 ⟨#[]⟩, .int .i64 7]⟩) else Q (.tuple ⟨[pv 3 (bl [114, 101, 115, 116]), .int .i64 0]⟩)) := by kernel_rfl
theorem po331 (k0 : Int) (s0 : ByteArray) (last : Bool) (Q : Value → Option Obj → Prop) : ffn Tryz.prog SP0 [] 600 [] Tryz.f21 [.string ⟨#[123, 114, 101, 115, 116, 42, 125]⟩, .slice (some ⟨0, 0, none⟩) 1 1, .bool last] (⟨1, 1, [(0, .cells ⟨[.int .i64 k0, .string s0]⟩ 40 (0, 0))]⟩ : AH) (fun v h => Q v (h.get 0)) = (h1T k0 s0 (bl [114, 101, 115, 116]) (Q (.tuple ⟨[pv 0 ⟨#[]⟩, .int .i64 6]⟩) (some (.cells ⟨[.int .i64 k0, .string s0]⟩ 40 (0, 0)))) (bif !last then Q (.tuple ⟨[pv 0 ⟨#[]⟩, .int .i64 7]⟩) (some (.cells ⟨[.int .i64 k0, .string s0]⟩ 40 (0, 0))) else Q (.tuple ⟨[pv 3 (bl [114, 101, 115, 116]), .int .i64 0]⟩) (some (.cells ⟨[.int .i64 k0, .string s0]⟩ 40 (0, 0))))) := by kernel_rfl
theorem po332 (k0 : Int) (s0 : ByteArray) (k1 : Int) (s1 : ByteArray) (last : Bool) (Q : Value → Option Obj → Prop) : ffn Tryz.prog SP0 [] 600 [] Tryz.f21 [.string ⟨#[123, 114, 101, 115, 116, 42, 125]⟩, .slice (some ⟨0, 0, none⟩) 2 2, .bool last] (⟨1, 1, [(0, .cells ⟨[.int .i64 k0, .string s0, .int .i64 k1, .string s1]⟩ 40 (0, 0))]⟩ : AH) (fun v h => Q v (h.get 0)) = (h1T k0 s0 (bl [114, 101, 115, 116]) (Q (.tuple ⟨[pv 0 ⟨#[]⟩, .int .i64 6]⟩) (some (.cells ⟨[.int .i64 k0, .string s0, .int .i64 k1, .string s1]⟩ 40 (0, 0)))) (h1T k1 s1 (bl [114, 101, 115, 116]) (Q (.tuple ⟨[pv 0 ⟨#[]⟩, .int .i64 6]⟩) (some (.cells ⟨[.int .i64 k0, .string s0, .int .i64 k1, .string s1]⟩ 40 (0, 0)))) (bif !last then Q (.tuple ⟨[pv 0 ⟨#[]⟩, .int .i64 7]⟩) (some (.cells ⟨[.int .i64 k0, .string s0, .int .i64 k1, .string s1]⟩ 40 (0, 0))) else Q (.tuple ⟨[pv 3 (bl [114, 101, 115, 116]), .int .i64 0]⟩) (some (.cells ⟨[.int .i64 k0, .string s0, .int .i64 k1, .string s1]⟩ 40 (0, 0)))))) := by kernel_rfl
def ptC (p : Pt) : List Value := [.int .i64 p.1, .string (bl p.2)]
theorem h1_no {p q : Pt} (hp : p.2 ∈ allN) (hq : q.2 ∈ allN) (h : (p.1 != 1 && p.2 == q.2) = false) {X Y : Prop} (hY : Y) : h1T p.1 (bl p.2) (bl q.2) X Y := h1_ok hp hq (by rw [if_neg (by rw [h]; simp)]; exact hY)
theorem po_fn0 {p : Pt} {last : Bool} (hk : p.1 = 2 ∨ p.1 = 3) (hw : wordB p.2 = true) (hl : p.1 = 2 ∨ last = true) :
    FnOK 0 Tryz.prog 21 ⟨[.string (bl (piece p)), .slice none 0 0, .bool last]⟩ h0 (fun v _ => v = .tuple ⟨[ptV p, .int .i64 0]⟩) := by
  obtain ⟨k, n⟩ := p
  simp only at hk hw hl
  have hn : n = [97] ∨ n = [105, 100] ∨ n = [120] ∨ n = [114, 101, 115, 116] := by
    unfold wordB at hw
    simp only [Bool.or_eq_true, beq_iff_eq] at hw
    rcases hw with ((h | h) | h) | h
    · exact .inl h
    · exact .inr (.inl h)
    · exact .inr (.inr (.inl h))
    · exact .inr (.inr (.inr h))
  rcases hn with rfl | rfl | rfl | rfl
  · rcases hk with hk | hk
    · subst hk
      exact FnOK.ftree SP0_ok mixed Tryz.func21 somePO (po200 _ (fun v => v = .tuple ⟨[pv 2 (bl [97]), .int .i64 0]⟩)) rfl
    · subst hk
      have hl : last = true := by simpa using hl
      subst hl
      exact FnOK.ftree SP0_ok mixed Tryz.func21 somePO (po300 _ (fun v => v = .tuple ⟨[pv 3 (bl [97]), .int .i64 0]⟩)) rfl
  · rcases hk with hk | hk
    · subst hk
      exact FnOK.ftree SP0_ok mixed Tryz.func21 somePO (po210 _ (fun v => v = .tuple ⟨[pv 2 (bl [105, 100]), .int .i64 0]⟩)) rfl
    · subst hk
      have hl : last = true := by simpa using hl
      subst hl
      exact FnOK.ftree SP0_ok mixed Tryz.func21 somePO (po310 _ (fun v => v = .tuple ⟨[pv 3 (bl [105, 100]), .int .i64 0]⟩)) rfl
  · rcases hk with hk | hk
    · subst hk
      exact FnOK.ftree SP0_ok mixed Tryz.func21 somePO (po220 _ (fun v => v = .tuple ⟨[pv 2 (bl [120]), .int .i64 0]⟩)) rfl
    · subst hk
      have hl : last = true := by simpa using hl
      subst hl
      exact FnOK.ftree SP0_ok mixed Tryz.func21 somePO (po320 _ (fun v => v = .tuple ⟨[pv 3 (bl [120]), .int .i64 0]⟩)) rfl
  · rcases hk with hk | hk
    · subst hk
      exact FnOK.ftree SP0_ok mixed Tryz.func21 somePO (po230 _ (fun v => v = .tuple ⟨[pv 2 (bl [114, 101, 115, 116]), .int .i64 0]⟩)) rfl
    · subst hk
      have hl : last = true := by simpa using hl
      subst hl
      exact FnOK.ftree SP0_ok mixed Tryz.func21 somePO (po330 _ (fun v => v = .tuple ⟨[pv 3 (bl [114, 101, 115, 116]), .int .i64 0]⟩)) rfl
theorem hasP1 {b : Pt} {n : List UInt8} (h : hasP [b] n = false) : (b.1 != 1 && b.2 == n) = false ∧ True := ⟨by simpa [hasP] using h, trivial⟩
theorem hasP2 {b c : Pt} {n : List UInt8} (h : hasP [b, c] n = false) : (b.1 != 1 && b.2 == n) = false ∧ (c.1 != 1 && c.2 == n) = false := by
  unfold hasP at h
  rw [List.any_cons, List.any_cons, List.any_nil, Bool.or_false, Bool.or_eq_false_iff] at h
  exact h
theorem po_fn1 {p : Pt} {B : List Pt} {last : Bool} (hk : p.1 = 2 ∨ p.1 = 3) (hw : wordB p.2 = true) (hl1 : 0 < B.length) (hl2 : B.length ≤ 2) (hB : ∀ b ∈ B, b.2 ∈ allN) (hP : hasP B p.2 = false) (hl : p.1 = 2 ∨ last = true) :
    FnOK 1 Tryz.prog 21 ⟨[.string (bl (piece p)), .slice (some ⟨0, 0, none⟩) B.length B.length, .bool last]⟩ ⟨1, 1, [(0, .cells ⟨B.flatMap ptC⟩ 40 (0, 0))]⟩ (fun v h => v = .tuple ⟨[ptV p, .int .i64 0]⟩ ∧ h.get 0 = some (.cells ⟨B.flatMap ptC⟩ 40 (0, 0))) := by
  obtain ⟨k, n⟩ := p
  simp only at hk hw hP hl
  have hn : n = [97] ∨ n = [105, 100] ∨ n = [120] ∨ n = [114, 101, 115, 116] := by
    unfold wordB at hw
    simp only [Bool.or_eq_true, beq_iff_eq] at hw
    rcases hw with ((h | h) | h) | h
    · exact .inl h
    · exact .inr (.inl h)
    · exact .inr (.inr (.inl h))
    · exact .inr (.inr (.inr h))
  rcases hn with rfl | rfl | rfl | rfl
  · match B, hl1, hl2, hB, hP with
    | [], h, _, _, _ => exact absurd h (by simp)
    | [b0], _, _, hB, hP =>
      have hP := hasP1 hP
      rcases hk with hk | hk
      · subst hk
        exact FnOK.ftree SP0_ok mixed Tryz.func21 somePO (po201 b0.1 (bl b0.2) _ (fun v o => v = .tuple ⟨[pv 2 (bl [97]), .int .i64 0]⟩ ∧ o = some (.cells ⟨[b0].flatMap ptC⟩ 40 (0, 0)))) (h1_no (q := (0, [97])) (hB b0 (by simp)) (by decide) (hP.1) ⟨rfl, rfl⟩)
      · subst hk
        have hl : last = true := by simpa using hl
        subst hl
        exact FnOK.ftree SP0_ok mixed Tryz.func21 somePO (po301 b0.1 (bl b0.2) _ (fun v o => v = .tuple ⟨[pv 3 (bl [97]), .int .i64 0]⟩ ∧ o = some (.cells ⟨[b0].flatMap ptC⟩ 40 (0, 0)))) (h1_no (q := (0, [97])) (hB b0 (by simp)) (by decide) (hP.1) ⟨rfl, rfl⟩)
    | [b0, b1], _, _, hB, hP =>
      have hP := hasP2 hP
      rcases hk with hk | hk
      · subst hk
        exact FnOK.ftree SP0_ok mixed Tryz.func21 somePO (po202 b0.1 (bl b0.2) b1.1 (bl b1.2) _ (fun v o => v = .tuple ⟨[pv 2 (bl [97]), .int .i64 0]⟩ ∧ o = some (.cells ⟨[b0, b1].flatMap ptC⟩ 40 (0, 0)))) (h1_no (q := (0, [97])) (hB b0 (by simp)) (by decide) (hP.1) (h1_no (q := (0, [97])) (hB b1 (by simp)) (by decide) (hP.2) ⟨rfl, rfl⟩))
      · subst hk
        have hl : last = true := by simpa using hl
        subst hl
        exact FnOK.ftree SP0_ok mixed Tryz.func21 somePO (po302 b0.1 (bl b0.2) b1.1 (bl b1.2) _ (fun v o => v = .tuple ⟨[pv 3 (bl [97]), .int .i64 0]⟩ ∧ o = some (.cells ⟨[b0, b1].flatMap ptC⟩ 40 (0, 0)))) (h1_no (q := (0, [97])) (hB b0 (by simp)) (by decide) (hP.1) (h1_no (q := (0, [97])) (hB b1 (by simp)) (by decide) (hP.2) ⟨rfl, rfl⟩))
    | _ :: _ :: _ :: _, _, h, _, _ => exact absurd h (by simp)
  · match B, hl1, hl2, hB, hP with
    | [], h, _, _, _ => exact absurd h (by simp)
    | [b0], _, _, hB, hP =>
      have hP := hasP1 hP
      rcases hk with hk | hk
      · subst hk
        exact FnOK.ftree SP0_ok mixed Tryz.func21 somePO (po211 b0.1 (bl b0.2) _ (fun v o => v = .tuple ⟨[pv 2 (bl [105, 100]), .int .i64 0]⟩ ∧ o = some (.cells ⟨[b0].flatMap ptC⟩ 40 (0, 0)))) (h1_no (q := (0, [105, 100])) (hB b0 (by simp)) (by decide) (hP.1) ⟨rfl, rfl⟩)
      · subst hk
        have hl : last = true := by simpa using hl
        subst hl
        exact FnOK.ftree SP0_ok mixed Tryz.func21 somePO (po311 b0.1 (bl b0.2) _ (fun v o => v = .tuple ⟨[pv 3 (bl [105, 100]), .int .i64 0]⟩ ∧ o = some (.cells ⟨[b0].flatMap ptC⟩ 40 (0, 0)))) (h1_no (q := (0, [105, 100])) (hB b0 (by simp)) (by decide) (hP.1) ⟨rfl, rfl⟩)
    | [b0, b1], _, _, hB, hP =>
      have hP := hasP2 hP
      rcases hk with hk | hk
      · subst hk
        exact FnOK.ftree SP0_ok mixed Tryz.func21 somePO (po212 b0.1 (bl b0.2) b1.1 (bl b1.2) _ (fun v o => v = .tuple ⟨[pv 2 (bl [105, 100]), .int .i64 0]⟩ ∧ o = some (.cells ⟨[b0, b1].flatMap ptC⟩ 40 (0, 0)))) (h1_no (q := (0, [105, 100])) (hB b0 (by simp)) (by decide) (hP.1) (h1_no (q := (0, [105, 100])) (hB b1 (by simp)) (by decide) (hP.2) ⟨rfl, rfl⟩))
      · subst hk
        have hl : last = true := by simpa using hl
        subst hl
        exact FnOK.ftree SP0_ok mixed Tryz.func21 somePO (po312 b0.1 (bl b0.2) b1.1 (bl b1.2) _ (fun v o => v = .tuple ⟨[pv 3 (bl [105, 100]), .int .i64 0]⟩ ∧ o = some (.cells ⟨[b0, b1].flatMap ptC⟩ 40 (0, 0)))) (h1_no (q := (0, [105, 100])) (hB b0 (by simp)) (by decide) (hP.1) (h1_no (q := (0, [105, 100])) (hB b1 (by simp)) (by decide) (hP.2) ⟨rfl, rfl⟩))
    | _ :: _ :: _ :: _, _, h, _, _ => exact absurd h (by simp)
  · match B, hl1, hl2, hB, hP with
    | [], h, _, _, _ => exact absurd h (by simp)
    | [b0], _, _, hB, hP =>
      have hP := hasP1 hP
      rcases hk with hk | hk
      · subst hk
        exact FnOK.ftree SP0_ok mixed Tryz.func21 somePO (po221 b0.1 (bl b0.2) _ (fun v o => v = .tuple ⟨[pv 2 (bl [120]), .int .i64 0]⟩ ∧ o = some (.cells ⟨[b0].flatMap ptC⟩ 40 (0, 0)))) (h1_no (q := (0, [120])) (hB b0 (by simp)) (by decide) (hP.1) ⟨rfl, rfl⟩)
      · subst hk
        have hl : last = true := by simpa using hl
        subst hl
        exact FnOK.ftree SP0_ok mixed Tryz.func21 somePO (po321 b0.1 (bl b0.2) _ (fun v o => v = .tuple ⟨[pv 3 (bl [120]), .int .i64 0]⟩ ∧ o = some (.cells ⟨[b0].flatMap ptC⟩ 40 (0, 0)))) (h1_no (q := (0, [120])) (hB b0 (by simp)) (by decide) (hP.1) ⟨rfl, rfl⟩)
    | [b0, b1], _, _, hB, hP =>
      have hP := hasP2 hP
      rcases hk with hk | hk
      · subst hk
        exact FnOK.ftree SP0_ok mixed Tryz.func21 somePO (po222 b0.1 (bl b0.2) b1.1 (bl b1.2) _ (fun v o => v = .tuple ⟨[pv 2 (bl [120]), .int .i64 0]⟩ ∧ o = some (.cells ⟨[b0, b1].flatMap ptC⟩ 40 (0, 0)))) (h1_no (q := (0, [120])) (hB b0 (by simp)) (by decide) (hP.1) (h1_no (q := (0, [120])) (hB b1 (by simp)) (by decide) (hP.2) ⟨rfl, rfl⟩))
      · subst hk
        have hl : last = true := by simpa using hl
        subst hl
        exact FnOK.ftree SP0_ok mixed Tryz.func21 somePO (po322 b0.1 (bl b0.2) b1.1 (bl b1.2) _ (fun v o => v = .tuple ⟨[pv 3 (bl [120]), .int .i64 0]⟩ ∧ o = some (.cells ⟨[b0, b1].flatMap ptC⟩ 40 (0, 0)))) (h1_no (q := (0, [120])) (hB b0 (by simp)) (by decide) (hP.1) (h1_no (q := (0, [120])) (hB b1 (by simp)) (by decide) (hP.2) ⟨rfl, rfl⟩))
    | _ :: _ :: _ :: _, _, h, _, _ => exact absurd h (by simp)
  · match B, hl1, hl2, hB, hP with
    | [], h, _, _, _ => exact absurd h (by simp)
    | [b0], _, _, hB, hP =>
      have hP := hasP1 hP
      rcases hk with hk | hk
      · subst hk
        exact FnOK.ftree SP0_ok mixed Tryz.func21 somePO (po231 b0.1 (bl b0.2) _ (fun v o => v = .tuple ⟨[pv 2 (bl [114, 101, 115, 116]), .int .i64 0]⟩ ∧ o = some (.cells ⟨[b0].flatMap ptC⟩ 40 (0, 0)))) (h1_no (q := (0, [114, 101, 115, 116])) (hB b0 (by simp)) (by decide) (hP.1) ⟨rfl, rfl⟩)
      · subst hk
        have hl : last = true := by simpa using hl
        subst hl
        exact FnOK.ftree SP0_ok mixed Tryz.func21 somePO (po331 b0.1 (bl b0.2) _ (fun v o => v = .tuple ⟨[pv 3 (bl [114, 101, 115, 116]), .int .i64 0]⟩ ∧ o = some (.cells ⟨[b0].flatMap ptC⟩ 40 (0, 0)))) (h1_no (q := (0, [114, 101, 115, 116])) (hB b0 (by simp)) (by decide) (hP.1) ⟨rfl, rfl⟩)
    | [b0, b1], _, _, hB, hP =>
      have hP := hasP2 hP
      rcases hk with hk | hk
      · subst hk
        exact FnOK.ftree SP0_ok mixed Tryz.func21 somePO (po232 b0.1 (bl b0.2) b1.1 (bl b1.2) _ (fun v o => v = .tuple ⟨[pv 2 (bl [114, 101, 115, 116]), .int .i64 0]⟩ ∧ o = some (.cells ⟨[b0, b1].flatMap ptC⟩ 40 (0, 0)))) (h1_no (q := (0, [114, 101, 115, 116])) (hB b0 (by simp)) (by decide) (hP.1) (h1_no (q := (0, [114, 101, 115, 116])) (hB b1 (by simp)) (by decide) (hP.2) ⟨rfl, rfl⟩))
      · subst hk
        have hl : last = true := by simpa using hl
        subst hl
        exact FnOK.ftree SP0_ok mixed Tryz.func21 somePO (po332 b0.1 (bl b0.2) b1.1 (bl b1.2) _ (fun v o => v = .tuple ⟨[pv 3 (bl [114, 101, 115, 116]), .int .i64 0]⟩ ∧ o = some (.cells ⟨[b0, b1].flatMap ptC⟩ 40 (0, 0)))) (h1_no (q := (0, [114, 101, 115, 116])) (hB b0 (by simp)) (by decide) (hP.1) (h1_no (q := (0, [114, 101, 115, 116])) (hB b1 (by simp)) (by decide) (hP.2) ⟨rfl, rfl⟩))
    | _ :: _ :: _ :: _, _, h, _, _ => exact absurd h (by simp)
open Classical in
noncomputable def okPo (s : ByteArray) (m : Nat) (cs : List Value) (last : Bool) : Bool := @decide (∃ (p : Pt) (B : List Pt), (p.1 = 2 ∨ p.1 = 3) ∧ wordB p.2 = true ∧ B.length ≤ 2 ∧ (∀ b ∈ B, b.2 ∈ allN) ∧ hasP B p.2 = false ∧ (p.1 = 2 ∨ last = true) ∧ s = bl (piece p) ∧ m = B.length ∧ cs = B.flatMap ptC) (Classical.propDecidable _)
theorem okPo_iff {s : ByteArray} {m : Nat} {cs : List Value} {last : Bool} : okPo s m cs last = true ↔ ∃ (p : Pt) (B : List Pt), (p.1 = 2 ∨ p.1 = 3) ∧ wordB p.2 = true ∧ B.length ≤ 2 ∧ (∀ b ∈ B, b.2 ∈ allN) ∧ hasP B p.2 = false ∧ (p.1 = 2 ∨ last = true) ∧ s = bl (piece p) ∧ m = B.length ∧ cs = B.flatMap ptC := by unfold okPo; exact @decide_eq_true_iff _ (Classical.propDecidable _)
/-- The part that a piece is. -/
def allP : List Pt := (allN.filter fun n => !dotsB n).map (fun n => ((1 : Int), n)) ++ (allN.filter wordB).map (fun n => ((2 : Int), n)) ++ (allN.filter wordB).map (fun n => ((3 : Int), n))
def paO (s : ByteArray) : Pt := (allP.find? fun p => piece p == s.data.toList).getD (0, [])
theorem paO_tbl : ∀ p ∈ allP, allP.find? (fun q => piece q == piece p) = some p := by decide +kernel
theorem paO_bl {p : Pt} (h : p ∈ allP) : paO (bl (piece p)) = p := by
  unfold paO
  rw [bl_list, paO_tbl p h]
  rfl
theorem allP_par {p : Pt} (hk : p.1 = 2 ∨ p.1 = 3) (hw : wordB p.2 = true) : p ∈ allP := by
  obtain ⟨k, n⟩ := p
  simp only at hk hw
  have hn : n ∈ allN.filter wordB := by
    unfold wordB at hw
    simp only [Bool.or_eq_true, beq_iff_eq] at hw
    rcases hw with ((rfl | rfl) | rfl) | rfl <;> decide
  unfold allP
  rcases hk with rfl | rfl
  · exact List.mem_append_left _ (List.mem_append_right _ (List.mem_map.2 ⟨n, hn, rfl⟩))
  · exact List.mem_append_right _ (List.mem_map.2 ⟨n, hn, rfl⟩)
noncomputable def spPo (f : FuncId) (args : Array Value) (h : AH) : Option (Bool × Value × AH) :=
  cond (Nat.beq f 21) (match args with
    | ⟨[.string s, .slice none 0 0, .bool last]⟩ => some (okPo s 0 [] last, .tuple ⟨[pv (paO s).1 (bl (paO s).2), .int .i64 0]⟩, h)
    | ⟨[.string s, .slice (some ⟨b, 0, none⟩) m c, .bool last]⟩ => match h.get b with
      | some (.cells ⟨cs⟩ t fr) => some (Nat.beq t 40 && Nat.beq fr.1 0 && Nat.beq fr.2 0 && okPo s m cs last && Nat.blt 0 m && Nat.beq c m, .tuple ⟨[pv (paO s).1 (bl (paO s).2), .int .i64 0]⟩, h)
      | _ => none
    | _ => none) none
theorem p1_ptC (B : List Pt) : ∀ v ∈ B.flatMap ptC, p1 v = true := by
  intro v hv
  obtain ⟨b, _, hb⟩ := List.mem_flatMap.1 hv
  simp only [ptC, List.mem_cons, List.not_mem_nil, or_false] at hb
  rcases hb with rfl | rfl <;> rfl
theorem spPo_ok : SpOK spPo := by
  intro f args h v h' hs
  unfold spPo at hs
  obtain ⟨hf, hs2⟩ := cond_some hs
  clear hs
  have := Nat.eq_of_beq_eq_true hf
  subst this
  split at hs2
  · rename_i s last
    injection hs2 with hs
    injection hs with hb hs
    injection hs with hv hh
    subst hv hh
    obtain ⟨p, B, c1, c2, c3, c4, c5, c6, rfl, c8, c9⟩ := okPo_iff.1 hb
    rw [paO_bl (allP_par c1 c2)]
    exact ⟨FnOK.pure (po_fn0 c1 c2 c6) rfl rfl h, Nat.le_refl _⟩
  · rename_i s b m c last
    split at hs2
    · rename_i cs t fr hg
      injection hs2 with hs
      injection hs with hb hs
      injection hs with hv hh
      subst hv hh
      simp only [Bool.and_eq_true] at hb
      obtain ⟨⟨⟨⟨⟨b1, b2⟩, b3⟩, b4⟩, b5⟩, b6⟩ := hb
      obtain ⟨f1, f2⟩ := fr
      simp only at b2 b3
      have b1 := Nat.eq_of_beq_eq_true b1
      have b2 := Nat.eq_of_beq_eq_true b2
      have b3 := Nat.eq_of_beq_eq_true b3
      have b6 := Nat.eq_of_beq_eq_true b6
      subst b1 b2 b3 b6
      obtain ⟨p, B, c1, c2, c3, c4, c5, c6, rfl, rfl, rfl⟩ := okPo_iff.1 b4
      have hpos : 0 < B.length := by rw [Nat.blt, Nat.ble_eq] at b5; omega
      have hF := po_fn1 c1 c2 hpos c3 c4 c5 c6
      rw [paO_bl (allP_par c1 c2)]
      refine ⟨?_, Nat.le_refl _⟩
      refine FnOK.reads (r := [(b, 0)]) (bl := [(0, .cells ⟨B.flatMap ptC⟩ 40 (0, 0))]) (small := [.string (bl (piece p)), .slice (some ⟨0, 0, none⟩) B.length B.length, .bool last]) (by simp [renOk, renB, invB, eqO]) (by simp [ren2s, ren2, ren1, renB, p1]) ?_ ?_ ?_ rfl
      · intro i o ho
        match i, ho with
        | 0, ho => cases ho; exact ⟨b, by simp, hg⟩
        | i + 1, ho => cases ho
      · intro i o ho
        match i, ho with
        | 0, ho =>
          cases ho
          exact ⟨_, _, _, rfl, fun x hx => p1_ptC B x hx⟩
        | i + 1, ho => cases ho
      · refine hF.mono ?_
        rintro v g ⟨rfl, hg⟩
        refine ⟨rfl, fun i o ho => ?_⟩
        match i, ho with
        | 0, ho => cases ho; exact hg
        | i + 1, ho => cases ho
    · cases hs2
  · cases hs2
end Go.Proofs.YtklcapmmogediaaGreatDoor
