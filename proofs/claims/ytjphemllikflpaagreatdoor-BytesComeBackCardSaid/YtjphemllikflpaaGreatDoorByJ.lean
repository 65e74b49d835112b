/-
  Bytes: names of headers.
-/
import Derived.Test.YtjphemllikflpaaGreatDoorByI
import Derived.Test.YtjphemllikflpaaGreatDoorByR
namespace Go.Proofs.YtjphemllikflpaaGreatDoor
open Go.Ev Go.RowKit RecLaw PathLaw QueryLaw BytesLaw

def hostN : Bs := [104, 111, 115, 116]
def clN : Bs := [99, 111, 110, 116, 101, 110, 116, 45, 108, 101, 110, 103, 116, 104]
def teN : Bs := [116, 114, 97, 110, 115, 102, 101, 114, 45, 101, 110, 99, 111, 100, 105, 110, 103]
def allS : List Bs := nmS ++ [hostN, clN]
def askS : List Bs := [hostN, clN, teN]
def nmB (a k : Bs) : Bool := Lib.toLowerA a == Lib.toLowerA k
def frB (a : Bs) : Bool := nmB a clN || nmB a teN
noncomputable def inN (s : ByteArray) : Bool := allS.contains s.data.toList
noncomputable def inK (s : ByteArray) : Bool := askS.contains s.data.toList
theorem someNM : Tryz.f70.body.isSome = true := by kernel_rfl
theorem someIFR : Tryz.f66.body.isSome = true := by kernel_rfl
theorem nd0_0 (x : ByteArray) (Q : Value → Prop) : ffn Tryz.prog ST0 [] 3000 [] Tryz.f70 [.agg ⟨[.string ⟨#[97, 99, 99, 101, 112, 116]⟩, .string x]⟩, .string ⟨#[104, 111, 115, 116]⟩] h0 (fun v _ => Q v) = Q (.bool false) := by kernel_rfl
theorem nd0_1 (x : ByteArray) (Q : Value → Prop) : ffn Tryz.prog ST0 [] 3000 [] Tryz.f70 [.agg ⟨[.string ⟨#[97, 99, 99, 101, 112, 116]⟩, .string x]⟩, .string ⟨#[99, 111, 110, 116, 101, 110, 116, 45, 108, 101, 110, 103, 116, 104]⟩] h0 (fun v _ => Q v) = Q (.bool false) := by kernel_rfl
theorem nd0_2 (x : ByteArray) (Q : Value → Prop) : ffn Tryz.prog ST0 [] 3000 [] Tryz.f70 [.agg ⟨[.string ⟨#[97, 99, 99, 101, 112, 116]⟩, .string x]⟩, .string ⟨#[116, 114, 97, 110, 115, 102, 101, 114, 45, 101, 110, 99, 111, 100, 105, 110, 103]⟩] h0 (fun v _ => Q v) = Q (.bool false) := by kernel_rfl
theorem nd1_0 (x : ByteArray) (Q : Value → Prop) : ffn Tryz.prog ST0 [] 3000 [] Tryz.f70 [.agg ⟨[.string ⟨#[65, 99, 99, 101, 112, 116]⟩, .string x]⟩, .string ⟨#[104, 111, 115, 116]⟩] h0 (fun v _ => Q v) = Q (.bool false) := by kernel_rfl
theorem nd1_1 (x : ByteArray) (Q : Value → Prop) : ffn Tryz.prog ST0 [] 3000 [] Tryz.f70 [.agg ⟨[.string ⟨#[65, 99, 99, 101, 112, 116]⟩, .string x]⟩, .string ⟨#[99, 111, 110, 116, 101, 110, 116, 45, 108, 101, 110, 103, 116, 104]⟩] h0 (fun v _ => Q v) = Q (.bool false) := by kernel_rfl
theorem nd1_2 (x : ByteArray) (Q : Value → Prop) : ffn Tryz.prog ST0 [] 3000 [] Tryz.f70 [.agg ⟨[.string ⟨#[65, 99, 99, 101, 112, 116]⟩, .string x]⟩, .string ⟨#[116, 114, 97, 110, 115, 102, 101, 114, 45, 101, 110, 99, 111, 100, 105, 110, 103]⟩] h0 (fun v _ => Q v) = Q (.bool false) := by kernel_rfl
theorem nd2_0 (x : ByteArray) (Q : Value → Prop) : ffn Tryz.prog ST0 [] 3000 [] Tryz.f70 [.agg ⟨[.string ⟨#[120, 45, 111, 110, 101]⟩, .string x]⟩, .string ⟨#[104, 111, 115, 116]⟩] h0 (fun v _ => Q v) = Q (.bool false) := by kernel_rfl
theorem nd2_1 (x : ByteArray) (Q : Value → Prop) : ffn Tryz.prog ST0 [] 3000 [] Tryz.f70 [.agg ⟨[.string ⟨#[120, 45, 111, 110, 101]⟩, .string x]⟩, .string ⟨#[99, 111, 110, 116, 101, 110, 116, 45, 108, 101, 110, 103, 116, 104]⟩] h0 (fun v _ => Q v) = Q (.bool false) := by kernel_rfl
theorem nd2_2 (x : ByteArray) (Q : Value → Prop) : ffn Tryz.prog ST0 [] 3000 [] Tryz.f70 [.agg ⟨[.string ⟨#[120, 45, 111, 110, 101]⟩, .string x]⟩, .string ⟨#[116, 114, 97, 110, 115, 102, 101, 114, 45, 101, 110, 99, 111, 100, 105, 110, 103]⟩] h0 (fun v _ => Q v) = Q (.bool false) := by kernel_rfl
theorem nd3_0 (x : ByteArray) (Q : Value → Prop) : ffn Tryz.prog ST0 [] 3000 [] Tryz.f70 [.agg ⟨[.string ⟨#[88, 45, 84, 119, 111]⟩, .string x]⟩, .string ⟨#[104, 111, 115, 116]⟩] h0 (fun v _ => Q v) = Q (.bool false) := by kernel_rfl
theorem nd3_1 (x : ByteArray) (Q : Value → Prop) : ffn Tryz.prog ST0 [] 3000 [] Tryz.f70 [.agg ⟨[.string ⟨#[88, 45, 84, 119, 111]⟩, .string x]⟩, .string ⟨#[99, 111, 110, 116, 101, 110, 116, 45, 108, 101, 110, 103, 116, 104]⟩] h0 (fun v _ => Q v) = Q (.bool false) := by kernel_rfl
theorem nd3_2 (x : ByteArray) (Q : Value → Prop) : ffn Tryz.prog ST0 [] 3000 [] Tryz.f70 [.agg ⟨[.string ⟨#[88, 45, 84, 119, 111]⟩, .string x]⟩, .string ⟨#[116, 114, 97, 110, 115, 102, 101, 114, 45, 101, 110, 99, 111, 100, 105, 110, 103]⟩] h0 (fun v _ => Q v) = Q (.bool false) := by kernel_rfl
theorem nd4_0 (x : ByteArray) (Q : Value → Prop) : ffn Tryz.prog ST0 [] 3000 [] Tryz.f70 [.agg ⟨[.string ⟨#[99, 111, 111, 107, 105, 101]⟩, .string x]⟩, .string ⟨#[104, 111, 115, 116]⟩] h0 (fun v _ => Q v) = Q (.bool false) := by kernel_rfl
theorem nd4_1 (x : ByteArray) (Q : Value → Prop) : ffn Tryz.prog ST0 [] 3000 [] Tryz.f70 [.agg ⟨[.string ⟨#[99, 111, 111, 107, 105, 101]⟩, .string x]⟩, .string ⟨#[99, 111, 110, 116, 101, 110, 116, 45, 108, 101, 110, 103, 116, 104]⟩] h0 (fun v _ => Q v) = Q (.bool false) := by kernel_rfl
theorem nd4_2 (x : ByteArray) (Q : Value → Prop) : ffn Tryz.prog ST0 [] 3000 [] Tryz.f70 [.agg ⟨[.string ⟨#[99, 111, 111, 107, 105, 101]⟩, .string x]⟩, .string ⟨#[116, 114, 97, 110, 115, 102, 101, 114, 45, 101, 110, 99, 111, 100, 105, 110, 103]⟩] h0 (fun v _ => Q v) = Q (.bool false) := by kernel_rfl
theorem nd5_0 (x : ByteArray) (Q : Value → Prop) : ffn Tryz.prog ST0 [] 3000 [] Tryz.f70 [.agg ⟨[.string ⟨#[118, 97, 114, 121]⟩, .string x]⟩, .string ⟨#[104, 111, 115, 116]⟩] h0 (fun v _ => Q v) = Q (.bool false) := by kernel_rfl
theorem nd5_1 (x : ByteArray) (Q : Value → Prop) : ffn Tryz.prog ST0 [] 3000 [] Tryz.f70 [.agg ⟨[.string ⟨#[118, 97, 114, 121]⟩, .string x]⟩, .string ⟨#[99, 111, 110, 116, 101, 110, 116, 45, 108, 101, 110, 103, 116, 104]⟩] h0 (fun v _ => Q v) = Q (.bool false) := by kernel_rfl
theorem nd5_2 (x : ByteArray) (Q : Value → Prop) : ffn Tryz.prog ST0 [] 3000 [] Tryz.f70 [.agg ⟨[.string ⟨#[118, 97, 114, 121]⟩, .string x]⟩, .string ⟨#[116, 114, 97, 110, 115, 102, 101, 114, 45, 101, 110, 99, 111, 100, 105, 110, 103]⟩] h0 (fun v _ => Q v) = Q (.bool false) := by kernel_rfl
theorem nd6_0 (x : ByteArray) (Q : Value → Prop) : ffn Tryz.prog ST0 [] 3000 [] Tryz.f70 [.agg ⟨[.string ⟨#[99, 111, 110, 110, 101, 99, 116, 105, 111, 110]⟩, .string x]⟩, .string ⟨#[104, 111, 115, 116]⟩] h0 (fun v _ => Q v) = Q (.bool false) := by kernel_rfl
theorem nd6_1 (x : ByteArray) (Q : Value → Prop) : ffn Tryz.prog ST0 [] 3000 [] Tryz.f70 [.agg ⟨[.string ⟨#[99, 111, 110, 110, 101, 99, 116, 105, 111, 110]⟩, .string x]⟩, .string ⟨#[99, 111, 110, 116, 101, 110, 116, 45, 108, 101, 110, 103, 116, 104]⟩] h0 (fun v _ => Q v) = Q (.bool false) := by kernel_rfl
theorem nd6_2 (x : ByteArray) (Q : Value → Prop) : ffn Tryz.prog ST0 [] 3000 [] Tryz.f70 [.agg ⟨[.string ⟨#[99, 111, 110, 110, 101, 99, 116, 105, 111, 110]⟩, .string x]⟩, .string ⟨#[116, 114, 97, 110, 115, 102, 101, 114, 45, 101, 110, 99, 111, 100, 105, 110, 103]⟩] h0 (fun v _ => Q v) = Q (.bool false) := by kernel_rfl
theorem nd7_0 (x : ByteArray) (Q : Value → Prop) : ffn Tryz.prog ST0 [] 3000 [] Tryz.f70 [.agg ⟨[.string ⟨#[120, 45, 102, 111, 114, 119, 97, 114, 100, 101, 100, 45, 102, 111, 114]⟩, .string x]⟩, .string ⟨#[104, 111, 115, 116]⟩] h0 (fun v _ => Q v) = Q (.bool false) := by kernel_rfl
theorem nd7_1 (x : ByteArray) (Q : Value → Prop) : ffn Tryz.prog ST0 [] 3000 [] Tryz.f70 [.agg ⟨[.string ⟨#[120, 45, 102, 111, 114, 119, 97, 114, 100, 101, 100, 45, 102, 111, 114]⟩, .string x]⟩, .string ⟨#[99, 111, 110, 116, 101, 110, 116, 45, 108, 101, 110, 103, 116, 104]⟩] h0 (fun v _ => Q v) = Q (.bool false) := by kernel_rfl
theorem nd7_2 (x : ByteArray) (Q : Value → Prop) : ffn Tryz.prog ST0 [] 3000 [] Tryz.f70 [.agg ⟨[.string ⟨#[120, 45, 102, 111, 114, 119, 97, 114, 100, 101, 100, 45, 102, 111, 114]⟩, .string x]⟩, .string ⟨#[116, 114, 97, 110, 115, 102, 101, 114, 45, 101, 110, 99, 111, 100, 105, 110, 103]⟩] h0 (fun v _ => Q v) = Q (.bool false) := by kernel_rfl
theorem nd8_0 (x : ByteArray) (Q : Value → Prop) : ffn Tryz.prog ST0 [] 3000 [] Tryz.f70 [.agg ⟨[.string ⟨#[118, 105, 97]⟩, .string x]⟩, .string ⟨#[104, 111, 115, 116]⟩] h0 (fun v _ => Q v) = Q (.bool false) := by kernel_rfl
theorem nd8_1 (x : ByteArray) (Q : Value → Prop) : ffn Tryz.prog ST0 [] 3000 [] Tryz.f70 [.agg ⟨[.string ⟨#[118, 105, 97]⟩, .string x]⟩, .string ⟨#[99, 111, 110, 116, 101, 110, 116, 45, 108, 101, 110, 103, 116, 104]⟩] h0 (fun v _ => Q v) = Q (.bool false) := by kernel_rfl
theorem nd8_2 (x : ByteArray) (Q : Value → Prop) : ffn Tryz.prog ST0 [] 3000 [] Tryz.f70 [.agg ⟨[.string ⟨#[118, 105, 97]⟩, .string x]⟩, .string ⟨#[116, 114, 97, 110, 115, 102, 101, 114, 45, 101, 110, 99, 111, 100, 105, 110, 103]⟩] h0 (fun v _ => Q v) = Q (.bool false) := by kernel_rfl
theorem nd9_0 (x : ByteArray) (Q : Value → Prop) : ffn Tryz.prog ST0 [] 3000 [] Tryz.f70 [.agg ⟨[.string ⟨#[120, 45, 102, 111, 114, 119, 97, 114, 100, 101, 100, 45, 104, 111, 115, 116]⟩, .string x]⟩, .string ⟨#[104, 111, 115, 116]⟩] h0 (fun v _ => Q v) = Q (.bool false) := by kernel_rfl
theorem nd9_1 (x : ByteArray) (Q : Value → Prop) : ffn Tryz.prog ST0 [] 3000 [] Tryz.f70 [.agg ⟨[.string ⟨#[120, 45, 102, 111, 114, 119, 97, 114, 100, 101, 100, 45, 104, 111, 115, 116]⟩, .string x]⟩, .string ⟨#[99, 111, 110, 116, 101, 110, 116, 45, 108, 101, 110, 103, 116, 104]⟩] h0 (fun v _ => Q v) = Q (.bool false) := by kernel_rfl
theorem nd9_2 (x : ByteArray) (Q : Value → Prop) : ffn Tryz.prog ST0 [] 3000 [] Tryz.f70 [.agg ⟨[.string ⟨#[120, 45, 102, 111, 114, 119, 97, 114, 100, 101, 100, 45, 104, 111, 115, 116]⟩, .string x]⟩, .string ⟨#[116, 114, 97, 110, 115, 102, 101, 114, 45, 101, 110, 99, 111, 100, 105, 110, 103]⟩] h0 (fun v _ => Q v) = Q (.bool false) := by kernel_rfl
theorem nd10_0 (x : ByteArray) (Q : Value → Prop) : ffn Tryz.prog ST0 [] 3000 [] Tryz.f70 [.agg ⟨[.string ⟨#[116, 101]⟩, .string x]⟩, .string ⟨#[104, 111, 115, 116]⟩] h0 (fun v _ => Q v) = Q (.bool false) := by kernel_rfl
theorem nd10_1 (x : ByteArray) (Q : Value → Prop) : ffn Tryz.prog ST0 [] 3000 [] Tryz.f70 [.agg ⟨[.string ⟨#[116, 101]⟩, .string x]⟩, .string ⟨#[99, 111, 110, 116, 101, 110, 116, 45, 108, 101, 110, 103, 116, 104]⟩] h0 (fun v _ => Q v) = Q (.bool false) := by kernel_rfl
theorem nd10_2 (x : ByteArray) (Q : Value → Prop) : ffn Tryz.prog ST0 [] 3000 [] Tryz.f70 [.agg ⟨[.string ⟨#[116, 101]⟩, .string x]⟩, .string ⟨#[116, 114, 97, 110, 115, 102, 101, 114, 45, 101, 110, 99, 111, 100, 105, 110, 103]⟩] h0 (fun v _ => Q v) = Q (.bool false) := by kernel_rfl
theorem nd11_0 (x : ByteArray) (Q : Value → Prop) : ffn Tryz.prog ST0 [] 3000 [] Tryz.f70 [.agg ⟨[.string ⟨#[104, 111, 115, 116]⟩, .string x]⟩, .string ⟨#[104, 111, 115, 116]⟩] h0 (fun v _ => Q v) = Q (.bool true) := by kernel_rfl
theorem nd11_1 (x : ByteArray) (Q : Value → Prop) : ffn Tryz.prog ST0 [] 3000 [] Tryz.f70 [.agg ⟨[.string ⟨#[104, 111, 115, 116]⟩, .string x]⟩, .string ⟨#[99, 111, 110, 116, 101, 110, 116, 45, 108, 101, 110, 103, 116, 104]⟩] h0 (fun v _ => Q v) = Q (.bool false) := by kernel_rfl
theorem nd11_2 (x : ByteArray) (Q : Value → Prop) : ffn Tryz.prog ST0 [] 3000 [] Tryz.f70 [.agg ⟨[.string ⟨#[104, 111, 115, 116]⟩, .string x]⟩, .string ⟨#[116, 114, 97, 110, 115, 102, 101, 114, 45, 101, 110, 99, 111, 100, 105, 110, 103]⟩] h0 (fun v _ => Q v) = Q (.bool false) := by kernel_rfl
theorem nd12_0 (x : ByteArray) (Q : Value → Prop) : ffn Tryz.prog ST0 [] 3000 [] Tryz.f70 [.agg ⟨[.string ⟨#[99, 111, 110, 116, 101, 110, 116, 45, 108, 101, 110, 103, 116, 104]⟩, .string x]⟩, .string ⟨#[104, 111, 115, 116]⟩] h0 (fun v _ => Q v) = Q (.bool false) := by kernel_rfl
theorem nd12_1 (x : ByteArray) (Q : Value → Prop) : ffn Tryz.prog ST0 [] 3000 [] Tryz.f70 [.agg ⟨[.string ⟨#[99, 111, 110, 116, 101, 110, 116, 45, 108, 101, 110, 103, 116, 104]⟩, .string x]⟩, .string ⟨#[99, 111, 110, 116, 101, 110, 116, 45, 108, 101, 110, 103, 116, 104]⟩] h0 (fun v _ => Q v) = Q (.bool true) := by kernel_rfl
theorem nd12_2 (x : ByteArray) (Q : Value → Prop) : ffn Tryz.prog ST0 [] 3000 [] Tryz.f70 [.agg ⟨[.string ⟨#[99, 111, 110, 116, 101, 110, 116, 45, 108, 101, 110, 103, 116, 104]⟩, .string x]⟩, .string ⟨#[116, 114, 97, 110, 115, 102, 101, 114, 45, 101, 110, 99, 111, 100, 105, 110, 103]⟩] h0 (fun v _ => Q v) = Q (.bool false) := by kernel_rfl
theorem fr0 (x : ByteArray) (Q : Value → Prop) : ffn Tryz.prog ST0 [] 3000 [] Tryz.f66 [.agg ⟨[.string ⟨#[97, 99, 99, 101, 112, 116]⟩, .string x]⟩] h0 (fun v _ => Q v) = Q (.bool false) := by kernel_rfl
theorem fr1 (x : ByteArray) (Q : Value → Prop) : ffn Tryz.prog ST0 [] 3000 [] Tryz.f66 [.agg ⟨[.string ⟨#[65, 99, 99, 101, 112, 116]⟩, .string x]⟩] h0 (fun v _ => Q v) = Q (.bool false) := by kernel_rfl
theorem fr2 (x : ByteArray) (Q : Value → Prop) : ffn Tryz.prog ST0 [] 3000 [] Tryz.f66 [.agg ⟨[.string ⟨#[120, 45, 111, 110, 101]⟩, .string x]⟩] h0 (fun v _ => Q v) = Q (.bool false) := by kernel_rfl
theorem fr3 (x : ByteArray) (Q : Value → Prop) : ffn Tryz.prog ST0 [] 3000 [] Tryz.f66 [.agg ⟨[.string ⟨#[88, 45, 84, 119, 111]⟩, .string x]⟩] h0 (fun v _ => Q v) = Q (.bool false) := by kernel_rfl
theorem fr4 (x : ByteArray) (Q : Value → Prop) : ffn Tryz.prog ST0 [] 3000 [] Tryz.f66 [.agg ⟨[.string ⟨#[99, 111, 111, 107, 105, 101]⟩, .string x]⟩] h0 (fun v _ => Q v) = Q (.bool false) := by kernel_rfl
theorem fr5 (x : ByteArray) (Q : Value → Prop) : ffn Tryz.prog ST0 [] 3000 [] Tryz.f66 [.agg ⟨[.string ⟨#[118, 97, 114, 121]⟩, .string x]⟩] h0 (fun v _ => Q v) = Q (.bool false) := by kernel_rfl
theorem fr6 (x : ByteArray) (Q : Value → Prop) : ffn Tryz.prog ST0 [] 3000 [] Tryz.f66 [.agg ⟨[.string ⟨#[99, 111, 110, 110, 101, 99, 116, 105, 111, 110]⟩, .string x]⟩] h0 (fun v _ => Q v) = Q (.bool false) := by kernel_rfl
theorem fr7 (x : ByteArray) (Q : Value → Prop) : ffn Tryz.prog ST0 [] 3000 [] Tryz.f66 [.agg ⟨[.string ⟨#[120, 45, 102, 111, 114, 119, 97, 114, 100, 101, 100, 45, 102, 111, 114]⟩, .string x]⟩] h0 (fun v _ => Q v) = Q (.bool false) := by kernel_rfl
theorem fr8 (x : ByteArray) (Q : Value → Prop) : ffn Tryz.prog ST0 [] 3000 [] Tryz.f66 [.agg ⟨[.string ⟨#[118, 105, 97]⟩, .string x]⟩] h0 (fun v _ => Q v) = Q (.bool false) := by kernel_rfl
theorem fr9 (x : ByteArray) (Q : Value → Prop) : ffn Tryz.prog ST0 [] 3000 [] Tryz.f66 [.agg ⟨[.string ⟨#[120, 45, 102, 111, 114, 119, 97, 114, 100, 101, 100, 45, 104, 111, 115, 116]⟩, .string x]⟩] h0 (fun v _ => Q v) = Q (.bool false) := by kernel_rfl
theorem fr10 (x : ByteArray) (Q : Value → Prop) : ffn Tryz.prog ST0 [] 3000 [] Tryz.f66 [.agg ⟨[.string ⟨#[116, 101]⟩, .string x]⟩] h0 (fun v _ => Q v) = Q (.bool false) := by kernel_rfl
theorem fr11 (x : ByteArray) (Q : Value → Prop) : ffn Tryz.prog ST0 [] 3000 [] Tryz.f66 [.agg ⟨[.string ⟨#[104, 111, 115, 116]⟩, .string x]⟩] h0 (fun v _ => Q v) = Q (.bool false) := by kernel_rfl
theorem fr12 (x : ByteArray) (Q : Value → Prop) : ffn Tryz.prog ST0 [] 3000 [] Tryz.f66 [.agg ⟨[.string ⟨#[99, 111, 110, 116, 101, 110, 116, 45, 108, 101, 110, 103, 116, 104]⟩, .string x]⟩] h0 (fun v _ => Q v) = Q (.bool true) := by kernel_rfl
theorem allS_eq : allS = [[97, 99, 99, 101, 112, 116], [65, 99, 99, 101, 112, 116], [120, 45, 111, 110, 101], [88, 45, 84, 119, 111], [99, 111, 111, 107, 105, 101], [118, 97, 114, 121], [99, 111, 110, 110, 101, 99, 116, 105, 111, 110], [120, 45, 102, 111, 114, 119, 97, 114, 100, 101, 100, 45, 102, 111, 114], [118, 105, 97], [120, 45, 102, 111, 114, 119, 97, 114, 100, 101, 100, 45, 104, 111, 115, 116], [116, 101], [104, 111, 115, 116], [99, 111, 110, 116, 101, 110, 116, 45, 108, 101, 110, 103, 116, 104]] := by decide +kernel
theorem nd_fn {a k : Bs} (ha : a ∈ allS) (hk : k ∈ askS) (x : ByteArray) : FnOK 0 Tryz.prog 70 ⟨[.agg ⟨[.string (bl a), .string x]⟩, .string (bl k)]⟩ h0 (fun v _ => v = .bool (nmB a k)) := by
  rw [allS_eq] at ha
  simp only [List.mem_cons, List.not_mem_nil, or_false] at ha
  simp only [askS, List.mem_cons, List.not_mem_nil, or_false] at hk
  rcases ha with rfl | rfl | rfl | rfl | rfl | rfl | rfl | rfl | rfl | rfl | rfl | rfl | rfl <;> rcases hk with rfl | rfl | rfl
  · exact FnOK.ftree ST0_ok mixed Tryz.func70 someNM (nd0_0 x (fun v => v = .bool false)) rfl
  · exact FnOK.ftree ST0_ok mixed Tryz.func70 someNM (nd0_1 x (fun v => v = .bool false)) rfl
  · exact FnOK.ftree ST0_ok mixed Tryz.func70 someNM (nd0_2 x (fun v => v = .bool false)) rfl
  · exact FnOK.ftree ST0_ok mixed Tryz.func70 someNM (nd1_0 x (fun v => v = .bool false)) rfl
  · exact FnOK.ftree ST0_ok mixed Tryz.func70 someNM (nd1_1 x (fun v => v = .bool false)) rfl
  · exact FnOK.ftree ST0_ok mixed Tryz.func70 someNM (nd1_2 x (fun v => v = .bool false)) rfl
  · exact FnOK.ftree ST0_ok mixed Tryz.func70 someNM (nd2_0 x (fun v => v = .bool false)) rfl
  · exact FnOK.ftree ST0_ok mixed Tryz.func70 someNM (nd2_1 x (fun v => v = .bool false)) rfl
  · exact FnOK.ftree ST0_ok mixed Tryz.func70 someNM (nd2_2 x (fun v => v = .bool false)) rfl
  · exact FnOK.ftree ST0_ok mixed Tryz.func70 someNM (nd3_0 x (fun v => v = .bool false)) rfl
  · exact FnOK.ftree ST0_ok mixed Tryz.func70 someNM (nd3_1 x (fun v => v = .bool false)) rfl
  · exact FnOK.ftree ST0_ok mixed Tryz.func70 someNM (nd3_2 x (fun v => v = .bool false)) rfl
  · exact FnOK.ftree ST0_ok mixed Tryz.func70 someNM (nd4_0 x (fun v => v = .bool false)) rfl
  · exact FnOK.ftree ST0_ok mixed Tryz.func70 someNM (nd4_1 x (fun v => v = .bool false)) rfl
  · exact FnOK.ftree ST0_ok mixed Tryz.func70 someNM (nd4_2 x (fun v => v = .bool false)) rfl
  · exact FnOK.ftree ST0_ok mixed Tryz.func70 someNM (nd5_0 x (fun v => v = .bool false)) rfl
  · exact FnOK.ftree ST0_ok mixed Tryz.func70 someNM (nd5_1 x (fun v => v = .bool false)) rfl
  · exact FnOK.ftree ST0_ok mixed Tryz.func70 someNM (nd5_2 x (fun v => v = .bool false)) rfl
  · exact FnOK.ftree ST0_ok mixed Tryz.func70 someNM (nd6_0 x (fun v => v = .bool false)) rfl
  · exact FnOK.ftree ST0_ok mixed Tryz.func70 someNM (nd6_1 x (fun v => v = .bool false)) rfl
  · exact FnOK.ftree ST0_ok mixed Tryz.func70 someNM (nd6_2 x (fun v => v = .bool false)) rfl
  · exact FnOK.ftree ST0_ok mixed Tryz.func70 someNM (nd7_0 x (fun v => v = .bool false)) rfl
  · exact FnOK.ftree ST0_ok mixed Tryz.func70 someNM (nd7_1 x (fun v => v = .bool false)) rfl
  · exact FnOK.ftree ST0_ok mixed Tryz.func70 someNM (nd7_2 x (fun v => v = .bool false)) rfl
  · exact FnOK.ftree ST0_ok mixed Tryz.func70 someNM (nd8_0 x (fun v => v = .bool false)) rfl
  · exact FnOK.ftree ST0_ok mixed Tryz.func70 someNM (nd8_1 x (fun v => v = .bool false)) rfl
  · exact FnOK.ftree ST0_ok mixed Tryz.func70 someNM (nd8_2 x (fun v => v = .bool false)) rfl
  · exact FnOK.ftree ST0_ok mixed Tryz.func70 someNM (nd9_0 x (fun v => v = .bool false)) rfl
  · exact FnOK.ftree ST0_ok mixed Tryz.func70 someNM (nd9_1 x (fun v => v = .bool false)) rfl
  · exact FnOK.ftree ST0_ok mixed Tryz.func70 someNM (nd9_2 x (fun v => v = .bool false)) rfl
  · exact FnOK.ftree ST0_ok mixed Tryz.func70 someNM (nd10_0 x (fun v => v = .bool false)) rfl
  · exact FnOK.ftree ST0_ok mixed Tryz.func70 someNM (nd10_1 x (fun v => v = .bool false)) rfl
  · exact FnOK.ftree ST0_ok mixed Tryz.func70 someNM (nd10_2 x (fun v => v = .bool false)) rfl
  · exact FnOK.ftree ST0_ok mixed Tryz.func70 someNM (nd11_0 x (fun v => v = .bool true)) rfl
  · exact FnOK.ftree ST0_ok mixed Tryz.func70 someNM (nd11_1 x (fun v => v = .bool false)) rfl
  · exact FnOK.ftree ST0_ok mixed Tryz.func70 someNM (nd11_2 x (fun v => v = .bool false)) rfl
  · exact FnOK.ftree ST0_ok mixed Tryz.func70 someNM (nd12_0 x (fun v => v = .bool false)) rfl
  · exact FnOK.ftree ST0_ok mixed Tryz.func70 someNM (nd12_1 x (fun v => v = .bool true)) rfl
  · exact FnOK.ftree ST0_ok mixed Tryz.func70 someNM (nd12_2 x (fun v => v = .bool false)) rfl
theorem fr_fn {a : Bs} (ha : a ∈ allS) (x : ByteArray) : FnOK 0 Tryz.prog 66 ⟨[.agg ⟨[.string (bl a), .string x]⟩]⟩ h0 (fun v _ => v = .bool (frB a)) := by
  rw [allS_eq] at ha
  simp only [List.mem_cons, List.not_mem_nil, or_false] at ha
  rcases ha with rfl | rfl | rfl | rfl | rfl | rfl | rfl | rfl | rfl | rfl | rfl | rfl | rfl
  · exact FnOK.ftree ST0_ok mixed Tryz.func66 someIFR (fr0 x (fun v => v = .bool false)) rfl
  · exact FnOK.ftree ST0_ok mixed Tryz.func66 someIFR (fr1 x (fun v => v = .bool false)) rfl
  · exact FnOK.ftree ST0_ok mixed Tryz.func66 someIFR (fr2 x (fun v => v = .bool false)) rfl
  · exact FnOK.ftree ST0_ok mixed Tryz.func66 someIFR (fr3 x (fun v => v = .bool false)) rfl
  · exact FnOK.ftree ST0_ok mixed Tryz.func66 someIFR (fr4 x (fun v => v = .bool false)) rfl
  · exact FnOK.ftree ST0_ok mixed Tryz.func66 someIFR (fr5 x (fun v => v = .bool false)) rfl
  · exact FnOK.ftree ST0_ok mixed Tryz.func66 someIFR (fr6 x (fun v => v = .bool false)) rfl
  · exact FnOK.ftree ST0_ok mixed Tryz.func66 someIFR (fr7 x (fun v => v = .bool false)) rfl
  · exact FnOK.ftree ST0_ok mixed Tryz.func66 someIFR (fr8 x (fun v => v = .bool false)) rfl
  · exact FnOK.ftree ST0_ok mixed Tryz.func66 someIFR (fr9 x (fun v => v = .bool false)) rfl
  · exact FnOK.ftree ST0_ok mixed Tryz.func66 someIFR (fr10 x (fun v => v = .bool false)) rfl
  · exact FnOK.ftree ST0_ok mixed Tryz.func66 someIFR (fr11 x (fun v => v = .bool false)) rfl
  · exact FnOK.ftree ST0_ok mixed Tryz.func66 someIFR (fr12 x (fun v => v = .bool true)) rfl
noncomputable def spNd (f : FuncId) (args : Array Value) (h : AH) : Option (Bool × Value × AH) :=
  cond (Nat.beq f 70) (match args with
    | ⟨[.agg ⟨[.string a, .string x]⟩, .string k]⟩ => some (inN a && inK k, .bool (nmB a.data.toList k.data.toList), h)
    | _ => none) none
theorem spNd_ok : SpOK spNd := by
  intro f args h v h' hs
  unfold spNd at hs
  obtain ⟨hf, hs2⟩ := cond_some hs
  clear hs
  have := Nat.eq_of_beq_eq_true hf
  subst this
  split at hs2
  · injection hs2 with hs
    injection hs with hb hs
    injection hs with hv hh
    subst hv hh
    rename_i a x k
    rw [Bool.and_eq_true] at hb
    have := nd_fn (a := a.data.toList) (k := k.data.toList) (by simpa [inN] using hb.1) (by simpa [inK] using hb.2) x
    rw [bl_self, bl_self] at this
    exact ⟨FnOK.pure this rfl rfl h, Nat.le_refl _⟩
  · cases hs2
noncomputable def spFr (f : FuncId) (args : Array Value) (h : AH) : Option (Bool × Value × AH) :=
  cond (Nat.beq f 66) (match args with
    | ⟨[.agg ⟨[.string a, .string x]⟩]⟩ => some (inN a, .bool (frB a.data.toList), h)
    | _ => none) none
theorem spFr_ok : SpOK spFr := by
  intro f args h v h' hs
  unfold spFr at hs
  obtain ⟨hf, hs2⟩ := cond_some hs
  clear hs
  have := Nat.eq_of_beq_eq_true hf
  subst this
  split at hs2
  · injection hs2 with hs
    injection hs with hb hs
    injection hs with hv hh
    subst hv hh
    rename_i a x
    have := fr_fn (a := a.data.toList) (by simpa [inN] using hb) x
    rw [bl_self] at this
    exact ⟨FnOK.pure this rfl rfl h, Nat.le_refl _⟩
  · cases hs2

/-! Values -/
noncomputable def SNd : SC := ⟨idn, spNd, false, true⟩
theorem SNd_ok : SNd.cfg.OK Tryz.prog := spNd_ok.cfg
noncomputable def vaT (k : ByteArray) (Q : Value → Prop) : List PB → List ByteArray → Prop
  | [], acc => Q (fz ⟨acc.map .string⟩)
  | p :: r, acc => bif inN p.1 && inK k then bif nmB p.1.data.toList k.data.toList then vaT k Q r (acc ++ [p.2]) else vaT k Q r acc else False
theorem vae1 (a1 b1 : ByteArray) (k : ByteArray) (Q : Value → Prop) : tfn Tryz.prog SNd [] (ghost1 8 (freezeG 24 false 1 [4])) 3000 [] Tryz.f39 [fz ⟨[.agg ⟨[.string a1, .string b1]⟩]⟩, .string k] h0 (fun v _ => Q v) = vaT k Q [(a1, b1)] [] := by kernel_rfl
theorem vae2 (a1 b1 a2 b2 : ByteArray) (k : ByteArray) (Q : Value → Prop) : tfn Tryz.prog SNd [] (ghost1 8 (freezeG 24 false 1 [4])) 3000 [] Tryz.f39 [fz ⟨[.agg ⟨[.string a1, .string b1]⟩, .agg ⟨[.string a2, .string b2]⟩]⟩, .string k] h0 (fun v _ => Q v) = vaT k Q [(a1, b1), (a2, b2)] [] := by kernel_rfl
theorem vae3 (a1 b1 a2 b2 a3 b3 : ByteArray) (k : ByteArray) (Q : Value → Prop) : tfn Tryz.prog SNd [] (ghost1 8 (freezeG 24 false 1 [4])) 3000 [] Tryz.f39 [fz ⟨[.agg ⟨[.string a1, .string b1]⟩, .agg ⟨[.string a2, .string b2]⟩, .agg ⟨[.string a3, .string b3]⟩]⟩, .string k] h0 (fun v _ => Q v) = vaT k Q [(a1, b1), (a2, b2), (a3, b3)] [] := by kernel_rfl
theorem vae4 (a1 b1 a2 b2 a3 b3 a4 b4 : ByteArray) (k : ByteArray) (Q : Value → Prop) : tfn Tryz.prog SNd [] (ghost1 8 (freezeG 24 false 1 [4])) 3000 [] Tryz.f39 [fz ⟨[.agg ⟨[.string a1, .string b1]⟩, .agg ⟨[.string a2, .string b2]⟩, .agg ⟨[.string a3, .string b3]⟩, .agg ⟨[.string a4, .string b4]⟩]⟩, .string k] h0 (fun v _ => Q v) = vaT k Q [(a1, b1), (a2, b2), (a3, b3), (a4, b4)] [] := by kernel_rfl
theorem vae5 (a1 b1 a2 b2 a3 b3 a4 b4 a5 b5 : ByteArray) (k : ByteArray) (Q : Value → Prop) : tfn Tryz.prog SNd [] (ghost1 8 (freezeG 24 false 1 [4])) 3000 [] Tryz.f39 [fz ⟨[.agg ⟨[.string a1, .string b1]⟩, .agg ⟨[.string a2, .string b2]⟩, .agg ⟨[.string a3, .string b3]⟩, .agg ⟨[.string a4, .string b4]⟩, .agg ⟨[.string a5, .string b5]⟩]⟩, .string k] h0 (fun v _ => Q v) = vaT k Q [(a1, b1), (a2, b2), (a3, b3), (a4, b4), (a5, b5)] [] := by kernel_rfl
theorem vae6 (a1 b1 a2 b2 a3 b3 a4 b4 a5 b5 a6 b6 : ByteArray) (k : ByteArray) (Q : Value → Prop) : tfn Tryz.prog SNd [] (ghost1 8 (freezeG 24 false 1 [4])) 3000 [] Tryz.f39 [fz ⟨[.agg ⟨[.string a1, .string b1]⟩, .agg ⟨[.string a2, .string b2]⟩, .agg ⟨[.string a3, .string b3]⟩, .agg ⟨[.string a4, .string b4]⟩, .agg ⟨[.string a5, .string b5]⟩, .agg ⟨[.string a6, .string b6]⟩]⟩, .string k] h0 (fun v _ => Q v) = vaT k Q [(a1, b1), (a2, b2), (a3, b3), (a4, b4), (a5, b5), (a6, b6)] [] := by kernel_rfl
theorem someVA : Tryz.f39.body.isSome = true := by kernel_rfl
def valB (k : Bs) : List (Bs × Bs) → List Bs
  | [] => []
  | p :: r => if nmB p.1 k then p.2 :: valB k r else valB k r
def pbO (p : Bs × Bs) : PB := (bl p.1, bl p.2)
theorem inN_bl {a : Bs} (h : a ∈ allS) : inN (bl a) = true := by unfold inN; rw [bl_list]; simpa using h
theorem inK_bl {a : Bs} (h : a ∈ askS) : inK (bl a) = true := by unfold inK; rw [bl_list]; simpa using h
theorem vaT_ok {k : Bs} (hk : k ∈ askS) {Q : Value → Prop} : ∀ (L : List (Bs × Bs)) (acc : List Bs), (∀ p ∈ L, p.1 ∈ allS) → Q (fz ⟨(acc ++ valB k L).map strV⟩) → vaT (bl k) Q (L.map pbO) (acc.map bl)
  | [], acc, _, hQ => by
    rw [show valB k [] = [] from rfl, List.append_nil] at hQ
    show Q (fz ⟨(acc.map bl).map .string⟩)
    rw [List.map_map]
    exact hQ
  | p :: r, acc, h, hQ => by
    have hp := h p (by simp)
    have hr := fun q hq => h q (List.mem_cons_of_mem p hq)
    show (bif inN (bl p.1) && inK (bl k) then bif nmB (bl p.1).data.toList (bl k).data.toList then vaT (bl k) Q (r.map pbO) (acc.map bl ++ [bl p.2]) else vaT (bl k) Q (r.map pbO) (acc.map bl) else False)
    rw [bl_list, bl_list]
    refine need_mk (by rw [inN_bl hp, inK_bl hk]; rfl) ?_
    unfold valB at hQ
    cases hn : nmB p.1 k with
    | true =>
      rw [hn, if_pos rfl] at hQ
      refine pick_t rfl ?_
      have e : acc.map bl ++ [bl p.2] = (acc ++ [p.2]).map bl := by simp
      rw [e]
      exact vaT_ok hk r (acc ++ [p.2]) hr (by rw [List.append_assoc]; exact hQ)
    | false =>
      rw [hn, if_neg (by decide)] at hQ
      exact pick_f rfl (vaT_ok hk r acc hr hQ)
theorem va_fn {k : Bs} (hk : k ∈ askS) : ∀ (L : List (Bs × Bs)), L ≠ [] → L.length ≤ 6 → (∀ p ∈ L, p.1 ∈ allS) → FnOK 0 Tryz.prog 39 ⟨[fz ⟨L.map prV⟩, .string (bl k)]⟩ h0 (fun v _ => v = fz ⟨(valB k L).map strV⟩)
  | [], h, _, _ => absurd rfl h
  | [p1], _, _, hok => FnOK.ttree SNd_ok mixed Tryz.func39 someVA (ghosts_one (by kernel_rfl) (freezeG_ok _ _ _ _ _ _)) (vae1 (bl p1.1) (bl p1.2) (bl k) (fun v => v = fz ⟨(valB k [p1]).map strV⟩)) (vaT_ok hk [p1] [] hok rfl)
  | [p1, p2], _, _, hok => FnOK.ttree SNd_ok mixed Tryz.func39 someVA (ghosts_one (by kernel_rfl) (freezeG_ok _ _ _ _ _ _)) (vae2 (bl p1.1) (bl p1.2) (bl p2.1) (bl p2.2) (bl k) (fun v => v = fz ⟨(valB k [p1, p2]).map strV⟩)) (vaT_ok hk [p1, p2] [] hok rfl)
  | [p1, p2, p3], _, _, hok => FnOK.ttree SNd_ok mixed Tryz.func39 someVA (ghosts_one (by kernel_rfl) (freezeG_ok _ _ _ _ _ _)) (vae3 (bl p1.1) (bl p1.2) (bl p2.1) (bl p2.2) (bl p3.1) (bl p3.2) (bl k) (fun v => v = fz ⟨(valB k [p1, p2, p3]).map strV⟩)) (vaT_ok hk [p1, p2, p3] [] hok rfl)
  | [p1, p2, p3, p4], _, _, hok => FnOK.ttree SNd_ok mixed Tryz.func39 someVA (ghosts_one (by kernel_rfl) (freezeG_ok _ _ _ _ _ _)) (vae4 (bl p1.1) (bl p1.2) (bl p2.1) (bl p2.2) (bl p3.1) (bl p3.2) (bl p4.1) (bl p4.2) (bl k) (fun v => v = fz ⟨(valB k [p1, p2, p3, p4]).map strV⟩)) (vaT_ok hk [p1, p2, p3, p4] [] hok rfl)
  | [p1, p2, p3, p4, p5], _, _, hok => FnOK.ttree SNd_ok mixed Tryz.func39 someVA (ghosts_one (by kernel_rfl) (freezeG_ok _ _ _ _ _ _)) (vae5 (bl p1.1) (bl p1.2) (bl p2.1) (bl p2.2) (bl p3.1) (bl p3.2) (bl p4.1) (bl p4.2) (bl p5.1) (bl p5.2) (bl k) (fun v => v = fz ⟨(valB k [p1, p2, p3, p4, p5]).map strV⟩)) (vaT_ok hk [p1, p2, p3, p4, p5] [] hok rfl)
  | [p1, p2, p3, p4, p5, p6], _, _, hok => FnOK.ttree SNd_ok mixed Tryz.func39 someVA (ghosts_one (by kernel_rfl) (freezeG_ok _ _ _ _ _ _)) (vae6 (bl p1.1) (bl p1.2) (bl p2.1) (bl p2.2) (bl p3.1) (bl p3.2) (bl p4.1) (bl p4.2) (bl p5.1) (bl p5.2) (bl p6.1) (bl p6.2) (bl k) (fun v => v = fz ⟨(valB k [p1, p2, p3, p4, p5, p6]).map strV⟩)) (vaT_ok hk [p1, p2, p3, p4, p5, p6] [] hok rfl)
  | _ :: _ :: _ :: _ :: _ :: _ :: _ :: _, _, h, _ => absurd h (by simp)

/-! without -/
noncomputable def woB (k : ByteArray) (Q : Value → Prop) : List PB → List PB → Prop
  | [], K => Q (fz ⟨K.map pvV⟩)
  | p :: r, K => bif inN p.1 && inK k then bif !nmB p.1.data.toList k.data.toList then woB k Q r (K ++ [p]) else woB k Q r K else False
noncomputable def woA (k : ByteArray) (Q : Value → Prop) : List PB → List PB → Prop
  | [], K => Q (fz ⟨K.map pvV⟩)
  | p :: r, K => bif inN p.1 && inK k then bif nmB p.1.data.toList k.data.toList then woB k Q r K else woA k Q r (K ++ [p]) else False
theorem woe1 (a1 b1 : ByteArray) (k : ByteArray) (Q : Value → Prop) : tfn Tryz.prog SNd [] (ghost1 1 (freezeG 9 true 2 [4])) 3000 [] Tryz.f35 [fz ⟨[.agg ⟨[.string a1, .string b1]⟩]⟩, .string k] h0 (fun v _ => Q v) = woA k Q [(a1, b1)] [] := by kernel_rfl
theorem woe2 (a1 b1 a2 b2 : ByteArray) (k : ByteArray) (Q : Value → Prop) : tfn Tryz.prog SNd [] (ghost1 1 (freezeG 9 true 2 [4])) 3000 [] Tryz.f35 [fz ⟨[.agg ⟨[.string a1, .string b1]⟩, .agg ⟨[.string a2, .string b2]⟩]⟩, .string k] h0 (fun v _ => Q v) = woA k Q [(a1, b1), (a2, b2)] [] := by kernel_rfl
theorem woe3 (a1 b1 a2 b2 a3 b3 : ByteArray) (k : ByteArray) (Q : Value → Prop) : tfn Tryz.prog SNd [] (ghost1 1 (freezeG 9 true 2 [4])) 3000 [] Tryz.f35 [fz ⟨[.agg ⟨[.string a1, .string b1]⟩, .agg ⟨[.string a2, .string b2]⟩, .agg ⟨[.string a3, .string b3]⟩]⟩, .string k] h0 (fun v _ => Q v) = woA k Q [(a1, b1), (a2, b2), (a3, b3)] [] := by kernel_rfl
theorem woe4 (a1 b1 a2 b2 a3 b3 a4 b4 : ByteArray) (k : ByteArray) (Q : Value → Prop) : tfn Tryz.prog SNd [] (ghost1 1 (freezeG 9 true 2 [4])) 3000 [] Tryz.f35 [fz ⟨[.agg ⟨[.string a1, .string b1]⟩, .agg ⟨[.string a2, .string b2]⟩, .agg ⟨[.string a3, .string b3]⟩, .agg ⟨[.string a4, .string b4]⟩]⟩, .string k] h0 (fun v _ => Q v) = woA k Q [(a1, b1), (a2, b2), (a3, b3), (a4, b4)] [] := by kernel_rfl
theorem woe5 (a1 b1 a2 b2 a3 b3 a4 b4 a5 b5 : ByteArray) (k : ByteArray) (Q : Value → Prop) : tfn Tryz.prog SNd [] (ghost1 1 (freezeG 9 true 2 [4])) 3000 [] Tryz.f35 [fz ⟨[.agg ⟨[.string a1, .string b1]⟩, .agg ⟨[.string a2, .string b2]⟩, .agg ⟨[.string a3, .string b3]⟩, .agg ⟨[.string a4, .string b4]⟩, .agg ⟨[.string a5, .string b5]⟩]⟩, .string k] h0 (fun v _ => Q v) = woA k Q [(a1, b1), (a2, b2), (a3, b3), (a4, b4), (a5, b5)] [] := by kernel_rfl
theorem wo_nil (k : ByteArray) (Q : Value → Prop) : ffn Tryz.prog SNd [] 3000 [] Tryz.f35 [.slice none 0 0, .string k] h0 (fun v _ => Q v) = Q (.slice none 0 0) := by kernel_rfl
theorem someWO : Tryz.f35.body.isSome = true := by kernel_rfl
def rmB (k : Bs) (L : List (Bs × Bs)) : List (Bs × Bs) := L.filter fun p => !nmB p.1 k
theorem pvO_map (K : List (Bs × Bs)) : (K.map pbO).map pvV = K.map prV := by rw [List.map_map]; rfl
theorem woB_ok {k : Bs} (hk : k ∈ askS) {Q : Value → Prop} : ∀ (L K : List (Bs × Bs)), (∀ p ∈ L, p.1 ∈ allS) → Q (fz ⟨(K ++ rmB k L).map prV⟩) → woB (bl k) Q (L.map pbO) (K.map pbO)
  | [], K, _, hQ => by
    rw [show rmB k [] = [] from rfl, List.append_nil] at hQ
    show Q (fz ⟨(K.map pbO).map pvV⟩)
    rw [pvO_map]
    exact hQ
  | p :: r, K, h, hQ => by
    have hp := h p (by simp)
    have hr := fun q hq => h q (List.mem_cons_of_mem p hq)
    show (bif inN (bl p.1) && inK (bl k) then bif !nmB (bl p.1).data.toList (bl k).data.toList then woB (bl k) Q (r.map pbO) (K.map pbO ++ [pbO p]) else woB (bl k) Q (r.map pbO) (K.map pbO) else False)
    rw [bl_list, bl_list]
    refine need_mk (by rw [inN_bl hp, inK_bl hk]; rfl) ?_
    unfold rmB at hQ
    rw [List.filter_cons] at hQ
    cases hn : nmB p.1 k with
    | true =>
      rw [hn] at hQ
      exact pick_f rfl (woB_ok hk r K hr hQ)
    | false =>
      rw [hn] at hQ
      refine pick_t rfl ?_
      have e : K.map pbO ++ [pbO p] = (K ++ [p]).map pbO := by simp
      rw [e]
      exact woB_ok hk r (K ++ [p]) hr (by rw [List.append_assoc]; exact hQ)
theorem woA_ok {k : Bs} (hk : k ∈ askS) {Q : Value → Prop} : ∀ (L K : List (Bs × Bs)), (∀ p ∈ L, p.1 ∈ allS) → Q (fz ⟨(K ++ rmB k L).map prV⟩) → woA (bl k) Q (L.map pbO) (K.map pbO)
  | [], K, _, hQ => by
    rw [show rmB k [] = [] from rfl, List.append_nil] at hQ
    show Q (fz ⟨(K.map pbO).map pvV⟩)
    rw [pvO_map]
    exact hQ
  | p :: r, K, h, hQ => by
    have hp := h p (by simp)
    have hr := fun q hq => h q (List.mem_cons_of_mem p hq)
    show (bif inN (bl p.1) && inK (bl k) then bif nmB (bl p.1).data.toList (bl k).data.toList then woB (bl k) Q (r.map pbO) (K.map pbO) else woA (bl k) Q (r.map pbO) (K.map pbO ++ [pbO p]) else False)
    rw [bl_list, bl_list]
    refine need_mk (by rw [inN_bl hp, inK_bl hk]; rfl) ?_
    unfold rmB at hQ
    rw [List.filter_cons] at hQ
    cases hn : nmB p.1 k with
    | true =>
      rw [hn] at hQ
      exact pick_t rfl (woB_ok hk r K hr hQ)
    | false =>
      rw [hn] at hQ
      refine pick_f rfl ?_
      have e : K.map pbO ++ [pbO p] = (K ++ [p]).map pbO := by simp
      rw [e]
      exact woA_ok hk r (K ++ [p]) hr (by rw [List.append_assoc]; exact hQ)
theorem wo_fn {k : Bs} (hk : k ∈ askS) : ∀ (L : List (Bs × Bs)), L ≠ [] → L.length ≤ 5 → (∀ p ∈ L, p.1 ∈ allS) → FnOK 0 Tryz.prog 35 ⟨[fz ⟨L.map prV⟩, .string (bl k)]⟩ h0 (fun v _ => v = fz ⟨(rmB k L).map prV⟩)
  | [], h, _, _ => absurd rfl h
  | [p1], _, _, hok => FnOK.ttree SNd_ok mixed Tryz.func35 someWO (ghosts_one (by kernel_rfl) (freezeG_ok _ _ _ _ _ _)) (woe1 (bl p1.1) (bl p1.2) (bl k) (fun v => v = fz ⟨(rmB k [p1]).map prV⟩)) (woA_ok hk [p1] [] hok rfl)
  | [p1, p2], _, _, hok => FnOK.ttree SNd_ok mixed Tryz.func35 someWO (ghosts_one (by kernel_rfl) (freezeG_ok _ _ _ _ _ _)) (woe2 (bl p1.1) (bl p1.2) (bl p2.1) (bl p2.2) (bl k) (fun v => v = fz ⟨(rmB k [p1, p2]).map prV⟩)) (woA_ok hk [p1, p2] [] hok rfl)
  | [p1, p2, p3], _, _, hok => FnOK.ttree SNd_ok mixed Tryz.func35 someWO (ghosts_one (by kernel_rfl) (freezeG_ok _ _ _ _ _ _)) (woe3 (bl p1.1) (bl p1.2) (bl p2.1) (bl p2.2) (bl p3.1) (bl p3.2) (bl k) (fun v => v = fz ⟨(rmB k [p1, p2, p3]).map prV⟩)) (woA_ok hk [p1, p2, p3] [] hok rfl)
  | [p1, p2, p3, p4], _, _, hok => FnOK.ttree SNd_ok mixed Tryz.func35 someWO (ghosts_one (by kernel_rfl) (freezeG_ok _ _ _ _ _ _)) (woe4 (bl p1.1) (bl p1.2) (bl p2.1) (bl p2.2) (bl p3.1) (bl p3.2) (bl p4.1) (bl p4.2) (bl k) (fun v => v = fz ⟨(rmB k [p1, p2, p3, p4]).map prV⟩)) (woA_ok hk [p1, p2, p3, p4] [] hok rfl)
  | [p1, p2, p3, p4, p5], _, _, hok => FnOK.ttree SNd_ok mixed Tryz.func35 someWO (ghosts_one (by kernel_rfl) (freezeG_ok _ _ _ _ _ _)) (woe5 (bl p1.1) (bl p1.2) (bl p2.1) (bl p2.2) (bl p3.1) (bl p3.2) (bl p4.1) (bl p4.2) (bl p5.1) (bl p5.2) (bl k) (fun v => v = fz ⟨(rmB k [p1, p2, p3, p4, p5]).map prV⟩)) (woA_ok hk [p1, p2, p3, p4, p5] [] hok rfl)
  | _ :: _ :: _ :: _ :: _ :: _ :: _, _, h, _ => absurd h (by simp)
end Go.Proofs.YtjphemllikflpaaGreatDoor
