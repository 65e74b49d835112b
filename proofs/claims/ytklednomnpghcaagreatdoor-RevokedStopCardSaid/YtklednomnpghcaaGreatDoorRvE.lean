/-
  Tokens: numbers with 16 digits.
-/
import Derived.Test.YtklednomnpghcaaGreatDoorRvD
namespace Go.Proofs.YtklednomnpghcaaGreatDoor
open Go.Ev Go.RowKit RecLaw PathLaw QueryLaw B64Law

theorem tz_tab {w : World} (h : TabsIn Tryz.prog w) : TabAt 10 Lib.deBruijn64tab w := by
  obtain ⟨t, fr, hb⟩ := h.1 10 ⟨bruijn.map fun z => Value.int .u8 z⟩ ⟨"math/bits.deBruijn64tab", by simp [tabs], by kernel_rfl⟩
  intro j hj
  have e : bruijn = Lib.deBruijn64tab.map fun (n : Nat) => (n : Int) := by decide
  rw [e] at hb
  simp [World.cell?, hb, hj]
noncomputable def spTz (f : FuncId) (args : Array Value) (h : AH) : Option (Bool × Value × AH) :=
  cond (Nat.beq f 231) (match args with
    | ⟨[.int .u64 n]⟩ => some (decide (n = 16), .int .i64 4, h)
    | _ => none) none
theorem spTz_ok : SpOK spTz := by
  intro f args h v h' hs
  unfold spTz at hs
  obtain ⟨hf, hs2⟩ := cond_some hs
  clear hs
  have := Nat.eq_of_beq_eq_true hf
  subst this
  split at hs2
  · injection hs2 with hs
    injection hs with hb hs
    injection hs with hv hh
    subst hv hh
    rename_i n
    have hn := of_decide_eq_true hb
    subst hn
    refine ⟨flat_callT (args := [.int .u64 16]) rfl rfl fun w hT => ?_, Nat.le_refl _⟩
    exact (Tryz.bits_TrailingZeros 16 (by decide) w fun _ => tz_tab hT).mono fun e w' ⟨h1, h2⟩ => ⟨h1, h2 ▸ Below.refl _ _⟩
  · cases hs2
noncomputable def SFb : SC := ⟨idn, spTz, true, true⟩
theorem SFb_ok : SFb.cfg.OK Tryz.prog := spTz_ok.cfg
def dgB : ByteArray := ⟨#[48, 49, 50, 51, 52, 53, 54, 55, 56, 57, 97, 98, 99, 100, 101, 102, 103, 104, 105, 106, 107, 108, 109, 110, 111, 112, 113, 114, 115, 116, 117, 118, 119, 120, 121, 122]⟩
def dgI (u : Int) : Int := IntKind.u64.wrap ((BitVec.ofInt 64 u &&& BitVec.ofInt 64 15).toNat : Int)
def inD (i : Int) : Bool := decide (0 ≤ i) && decide (i < (dgB.size : Int))
def zer : Nat → List Value
  | 0 => []
  | n + 1 => .int .u8 0 :: zer n
def u8I (d : Int) : Value := .int .u8 d
/-- The digits so far, at the end of 65 bytes. -/
def fH (ds : List Int) : AH := ⟨1, 1, [(0, .cells ⟨zer (65 - ds.length) ++ ds.map u8I⟩ 260 (0, 0))]⟩
noncomputable def stT (ds : List Int) (K : ByteArray → Prop) : Prop := bif (ds.map u8I).all isByte then K ⟨⟨(ds.map u8I).map toByte⟩⟩ else False
set_option maxRecDepth 20000 in
theorem fb0 (u : Int) (B : List Value → AH → Prop) (Q : AExit → List Value → AH → Prop) : once 0 Tryz.prog SFb [] noHooks 900 102 [0, 1, 2, 3, 4, 10, 12, 13, 14, 15, 16] [] [1, 3, 4, 10, 12, 13] [] (oneLoop (codeOf Tryz.f188) 11) [.slice none 0 0, .int .u64 u, .int .i64 16, .bool false, .bool false, .slice none 0 0, .pointer (some ⟨0, 0, none⟩), .int .i64 65, .int .u64 4, .int .u64 16, .int .u64 15] (fH []) B Q =
    bif decide (u ≥ 16) then bif inD (dgI u) then B [.slice none 0 0, .int .u64 (u.fdiv 16), .int .i64 16, .bool false, .bool false, .slice none 0 0, .pointer (some ⟨0, 0, none⟩), .int .i64 64, .int .u64 4, .int .u64 16, .int .u64 15] (fH (bT dgB (dgI u) :: [])) else False else Q (.exit 0) [.int .u64 u, .bool false, .bool false, .slice none 0 0, .pointer (some ⟨0, 0, none⟩), .int .i64 65] (fH []) := by kernel_rfl
set_option maxRecDepth 20000 in
theorem ff0 (x u : Int) (C : List Value → AH → Prop) (Q : Value → Prop) : tfn Tryz.prog SFb [] (hook1 11 (hookLS 0 102 [0, 1, 2, 3, 4, 10, 12, 13, 14, 15, 16] [] [1, 3, 4, 10, 12, 13] (fun vals h K => C vals h ∧ K (.exit 0) [.int .u64 u, .bool false, .bool false, .slice none 0 0, .pointer (some ⟨0, 0, none⟩), .int .i64 65] (fH [])))) 900 [] Tryz.f188 [.slice none 0 0, .int .u64 x, .int .i64 16, .bool false, .bool false] h0 (fun v _ => Q v) =
    (C [.slice none 0 0, .int .u64 x, .int .i64 16, .bool false, .bool false, .slice none 0 0, .pointer (some ⟨0, 0, none⟩), .int .i64 65, .int .u64 4, .int .u64 16, .int .u64 15] (fH []) ∧ bif inD u then stT (bT dgB u :: []) fun s => Q (.tuple ⟨[.slice none 0 0, .string s]⟩) else False) := by kernel_rfl
set_option maxRecDepth 20000 in
theorem fb1 (u : Int) (d0 : Int) (B : List Value → AH → Prop) (Q : AExit → List Value → AH → Prop) : once 0 Tryz.prog SFb [] noHooks 900 102 [0, 1, 2, 3, 4, 10, 12, 13, 14, 15, 16] [] [1, 3, 4, 10, 12, 13] [] (oneLoop (codeOf Tryz.f188) 11) [.slice none 0 0, .int .u64 u, .int .i64 16, .bool false, .bool false, .slice none 0 0, .pointer (some ⟨0, 0, none⟩), .int .i64 64, .int .u64 4, .int .u64 16, .int .u64 15] (fH [d0]) B Q =
    bif decide (u ≥ 16) then bif inD (dgI u) then B [.slice none 0 0, .int .u64 (u.fdiv 16), .int .i64 16, .bool false, .bool false, .slice none 0 0, .pointer (some ⟨0, 0, none⟩), .int .i64 63, .int .u64 4, .int .u64 16, .int .u64 15] (fH (bT dgB (dgI u) :: [d0])) else False else Q (.exit 0) [.int .u64 u, .bool false, .bool false, .slice none 0 0, .pointer (some ⟨0, 0, none⟩), .int .i64 64] (fH [d0]) := by kernel_rfl
set_option maxRecDepth 20000 in
theorem ff1 (x u : Int) (d0 : Int) (C : List Value → AH → Prop) (Q : Value → Prop) : tfn Tryz.prog SFb [] (hook1 11 (hookLS 0 102 [0, 1, 2, 3, 4, 10, 12, 13, 14, 15, 16] [] [1, 3, 4, 10, 12, 13] (fun vals h K => C vals h ∧ K (.exit 0) [.int .u64 u, .bool false, .bool false, .slice none 0 0, .pointer (some ⟨0, 0, none⟩), .int .i64 64] (fH [d0])))) 900 [] Tryz.f188 [.slice none 0 0, .int .u64 x, .int .i64 16, .bool false, .bool false] h0 (fun v _ => Q v) =
    (C [.slice none 0 0, .int .u64 x, .int .i64 16, .bool false, .bool false, .slice none 0 0, .pointer (some ⟨0, 0, none⟩), .int .i64 65, .int .u64 4, .int .u64 16, .int .u64 15] (fH []) ∧ bif inD u then stT (bT dgB u :: [d0]) fun s => Q (.tuple ⟨[.slice none 0 0, .string s]⟩) else False) := by kernel_rfl
set_option maxRecDepth 20000 in
theorem fb2 (u : Int) (d0 d1 : Int) (B : List Value → AH → Prop) (Q : AExit → List Value → AH → Prop) : once 0 Tryz.prog SFb [] noHooks 900 102 [0, 1, 2, 3, 4, 10, 12, 13, 14, 15, 16] [] [1, 3, 4, 10, 12, 13] [] (oneLoop (codeOf Tryz.f188) 11) [.slice none 0 0, .int .u64 u, .int .i64 16, .bool false, .bool false, .slice none 0 0, .pointer (some ⟨0, 0, none⟩), .int .i64 63, .int .u64 4, .int .u64 16, .int .u64 15] (fH [d0, d1]) B Q =
    bif decide (u ≥ 16) then bif inD (dgI u) then B [.slice none 0 0, .int .u64 (u.fdiv 16), .int .i64 16, .bool false, .bool false, .slice none 0 0, .pointer (some ⟨0, 0, none⟩), .int .i64 62, .int .u64 4, .int .u64 16, .int .u64 15] (fH (bT dgB (dgI u) :: [d0, d1])) else False else Q (.exit 0) [.int .u64 u, .bool false, .bool false, .slice none 0 0, .pointer (some ⟨0, 0, none⟩), .int .i64 63] (fH [d0, d1]) := by kernel_rfl
set_option maxRecDepth 20000 in
theorem ff2 (x u : Int) (d0 d1 : Int) (C : List Value → AH → Prop) (Q : Value → Prop) : tfn Tryz.prog SFb [] (hook1 11 (hookLS 0 102 [0, 1, 2, 3, 4, 10, 12, 13, 14, 15, 16] [] [1, 3, 4, 10, 12, 13] (fun vals h K => C vals h ∧ K (.exit 0) [.int .u64 u, .bool false, .bool false, .slice none 0 0, .pointer (some ⟨0, 0, none⟩), .int .i64 63] (fH [d0, d1])))) 900 [] Tryz.f188 [.slice none 0 0, .int .u64 x, .int .i64 16, .bool false, .bool false] h0 (fun v _ => Q v) =
    (C [.slice none 0 0, .int .u64 x, .int .i64 16, .bool false, .bool false, .slice none 0 0, .pointer (some ⟨0, 0, none⟩), .int .i64 65, .int .u64 4, .int .u64 16, .int .u64 15] (fH []) ∧ bif inD u then stT (bT dgB u :: [d0, d1]) fun s => Q (.tuple ⟨[.slice none 0 0, .string s]⟩) else False) := by kernel_rfl
set_option maxRecDepth 20000 in
theorem fb3 (u : Int) (d0 d1 d2 : Int) (B : List Value → AH → Prop) (Q : AExit → List Value → AH → Prop) : once 0 Tryz.prog SFb [] noHooks 900 102 [0, 1, 2, 3, 4, 10, 12, 13, 14, 15, 16] [] [1, 3, 4, 10, 12, 13] [] (oneLoop (codeOf Tryz.f188) 11) [.slice none 0 0, .int .u64 u, .int .i64 16, .bool false, .bool false, .slice none 0 0, .pointer (some ⟨0, 0, none⟩), .int .i64 62, .int .u64 4, .int .u64 16, .int .u64 15] (fH [d0, d1, d2]) B Q =
    bif decide (u ≥ 16) then bif inD (dgI u) then B [.slice none 0 0, .int .u64 (u.fdiv 16), .int .i64 16, .bool false, .bool false, .slice none 0 0, .pointer (some ⟨0, 0, none⟩), .int .i64 61, .int .u64 4, .int .u64 16, .int .u64 15] (fH (bT dgB (dgI u) :: [d0, d1, d2])) else False else Q (.exit 0) [.int .u64 u, .bool false, .bool false, .slice none 0 0, .pointer (some ⟨0, 0, none⟩), .int .i64 62] (fH [d0, d1, d2]) := by kernel_rfl
set_option maxRecDepth 20000 in
theorem ff3 (x u : Int) (d0 d1 d2 : Int) (C : List Value → AH → Prop) (Q : Value → Prop) : tfn Tryz.prog SFb [] (hook1 11 (hookLS 0 102 [0, 1, 2, 3, 4, 10, 12, 13, 14, 15, 16] [] [1, 3, 4, 10, 12, 13] (fun vals h K => C vals h ∧ K (.exit 0) [.int .u64 u, .bool false, .bool false, .slice none 0 0, .pointer (some ⟨0, 0, none⟩), .int .i64 62] (fH [d0, d1, d2])))) 900 [] Tryz.f188 [.slice none 0 0, .int .u64 x, .int .i64 16, .bool false, .bool false] h0 (fun v _ => Q v) =
    (C [.slice none 0 0, .int .u64 x, .int .i64 16, .bool false, .bool false, .slice none 0 0, .pointer (some ⟨0, 0, none⟩), .int .i64 65, .int .u64 4, .int .u64 16, .int .u64 15] (fH []) ∧ bif inD u then stT (bT dgB u :: [d0, d1, d2]) fun s => Q (.tuple ⟨[.slice none 0 0, .string s]⟩) else False) := by kernel_rfl
set_option maxRecDepth 20000 in
theorem fb4 (u : Int) (d0 d1 d2 d3 : Int) (B : List Value → AH → Prop) (Q : AExit → List Value → AH → Prop) : once 0 Tryz.prog SFb [] noHooks 900 102 [0, 1, 2, 3, 4, 10, 12, 13, 14, 15, 16] [] [1, 3, 4, 10, 12, 13] [] (oneLoop (codeOf Tryz.f188) 11) [.slice none 0 0, .int .u64 u, .int .i64 16, .bool false, .bool false, .slice none 0 0, .pointer (some ⟨0, 0, none⟩), .int .i64 61, .int .u64 4, .int .u64 16, .int .u64 15] (fH [d0, d1, d2, d3]) B Q =
    bif decide (u ≥ 16) then bif inD (dgI u) then B [.slice none 0 0, .int .u64 (u.fdiv 16), .int .i64 16, .bool false, .bool false, .slice none 0 0, .pointer (some ⟨0, 0, none⟩), .int .i64 60, .int .u64 4, .int .u64 16, .int .u64 15] (fH (bT dgB (dgI u) :: [d0, d1, d2, d3])) else False else Q (.exit 0) [.int .u64 u, .bool false, .bool false, .slice none 0 0, .pointer (some ⟨0, 0, none⟩), .int .i64 61] (fH [d0, d1, d2, d3]) := by kernel_rfl
set_option maxRecDepth 20000 in
theorem ff4 (x u : Int) (d0 d1 d2 d3 : Int) (C : List Value → AH → Prop) (Q : Value → Prop) : tfn Tryz.prog SFb [] (hook1 11 (hookLS 0 102 [0, 1, 2, 3, 4, 10, 12, 13, 14, 15, 16] [] [1, 3, 4, 10, 12, 13] (fun vals h K => C vals h ∧ K (.exit 0) [.int .u64 u, .bool false, .bool false, .slice none 0 0, .pointer (some ⟨0, 0, none⟩), .int .i64 61] (fH [d0, d1, d2, d3])))) 900 [] Tryz.f188 [.slice none 0 0, .int .u64 x, .int .i64 16, .bool false, .bool false] h0 (fun v _ => Q v) =
    (C [.slice none 0 0, .int .u64 x, .int .i64 16, .bool false, .bool false, .slice none 0 0, .pointer (some ⟨0, 0, none⟩), .int .i64 65, .int .u64 4, .int .u64 16, .int .u64 15] (fH []) ∧ bif inD u then stT (bT dgB u :: [d0, d1, d2, d3]) fun s => Q (.tuple ⟨[.slice none 0 0, .string s]⟩) else False) := by kernel_rfl
set_option maxRecDepth 20000 in
theorem fb5 (u : Int) (d0 d1 d2 d3 d4 : Int) (B : List Value → AH → Prop) (Q : AExit → List Value → AH → Prop) : once 0 Tryz.prog SFb [] noHooks 900 102 [0, 1, 2, 3, 4, 10, 12, 13, 14, 15, 16] [] [1, 3, 4, 10, 12, 13] [] (oneLoop (codeOf Tryz.f188) 11) [.slice none 0 0, .int .u64 u, .int .i64 16, .bool false, .bool false, .slice none 0 0, .pointer (some ⟨0, 0, none⟩), .int .i64 60, .int .u64 4, .int .u64 16, .int .u64 15] (fH [d0, d1, d2, d3, d4]) B Q =
    bif decide (u ≥ 16) then bif inD (dgI u) then B [.slice none 0 0, .int .u64 (u.fdiv 16), .int .i64 16, .bool false, .bool false, .slice none 0 0, .pointer (some ⟨0, 0, none⟩), .int .i64 59, .int .u64 4, .int .u64 16, .int .u64 15] (fH (bT dgB (dgI u) :: [d0, d1, d2, d3, d4])) else False else Q (.exit 0) [.int .u64 u, .bool false, .bool false, .slice none 0 0, .pointer (some ⟨0, 0, none⟩), .int .i64 60] (fH [d0, d1, d2, d3, d4]) := by kernel_rfl
set_option maxRecDepth 20000 in
theorem ff5 (x u : Int) (d0 d1 d2 d3 d4 : Int) (C : List Value → AH → Prop) (Q : Value → Prop) : tfn Tryz.prog SFb [] (hook1 11 (hookLS 0 102 [0, 1, 2, 3, 4, 10, 12, 13, 14, 15, 16] [] [1, 3, 4, 10, 12, 13] (fun vals h K => C vals h ∧ K (.exit 0) [.int .u64 u, .bool false, .bool false, .slice none 0 0, .pointer (some ⟨0, 0, none⟩), .int .i64 60] (fH [d0, d1, d2, d3, d4])))) 900 [] Tryz.f188 [.slice none 0 0, .int .u64 x, .int .i64 16, .bool false, .bool false] h0 (fun v _ => Q v) =
    (C [.slice none 0 0, .int .u64 x, .int .i64 16, .bool false, .bool false, .slice none 0 0, .pointer (some ⟨0, 0, none⟩), .int .i64 65, .int .u64 4, .int .u64 16, .int .u64 15] (fH []) ∧ bif inD u then stT (bT dgB u :: [d0, d1, d2, d3, d4]) fun s => Q (.tuple ⟨[.slice none 0 0, .string s]⟩) else False) := by kernel_rfl
set_option maxRecDepth 20000 in
theorem fb6 (u : Int) (d0 d1 d2 d3 d4 d5 : Int) (B : List Value → AH → Prop) (Q : AExit → List Value → AH → Prop) : once 0 Tryz.prog SFb [] noHooks 900 102 [0, 1, 2, 3, 4, 10, 12, 13, 14, 15, 16] [] [1, 3, 4, 10, 12, 13] [] (oneLoop (codeOf Tryz.f188) 11) [.slice none 0 0, .int .u64 u, .int .i64 16, .bool false, .bool false, .slice none 0 0, .pointer (some ⟨0, 0, none⟩), .int .i64 59, .int .u64 4, .int .u64 16, .int .u64 15] (fH [d0, d1, d2, d3, d4, d5]) B Q =
    bif decide (u ≥ 16) then bif inD (dgI u) then B [.slice none 0 0, .int .u64 (u.fdiv 16), .int .i64 16, .bool false, .bool false, .slice none 0 0, .pointer (some ⟨0, 0, none⟩), .int .i64 58, .int .u64 4, .int .u64 16, .int .u64 15] (fH (bT dgB (dgI u) :: [d0, d1, d2, d3, d4, d5])) else False else Q (.exit 0) [.int .u64 u, .bool false, .bool false, .slice none 0 0, .pointer (some ⟨0, 0, none⟩), .int .i64 59] (fH [d0, d1, d2, d3, d4, d5]) := by kernel_rfl
set_option maxRecDepth 20000 in
theorem ff6 (x u : Int) (d0 d1 d2 d3 d4 d5 : Int) (C : List Value → AH → Prop) (Q : Value → Prop) : tfn Tryz.prog SFb [] (hook1 11 (hookLS 0 102 [0, 1, 2, 3, 4, 10, 12, 13, 14, 15, 16] [] [1, 3, 4, 10, 12, 13] (fun vals h K => C vals h ∧ K (.exit 0) [.int .u64 u, .bool false, .bool false, .slice none 0 0, .pointer (some ⟨0, 0, none⟩), .int .i64 59] (fH [d0, d1, d2, d3, d4, d5])))) 900 [] Tryz.f188 [.slice none 0 0, .int .u64 x, .int .i64 16, .bool false, .bool false] h0 (fun v _ => Q v) =
    (C [.slice none 0 0, .int .u64 x, .int .i64 16, .bool false, .bool false, .slice none 0 0, .pointer (some ⟨0, 0, none⟩), .int .i64 65, .int .u64 4, .int .u64 16, .int .u64 15] (fH []) ∧ bif inD u then stT (bT dgB u :: [d0, d1, d2, d3, d4, d5]) fun s => Q (.tuple ⟨[.slice none 0 0, .string s]⟩) else False) := by kernel_rfl
set_option maxRecDepth 20000 in
theorem fb7 (u : Int) (d0 d1 d2 d3 d4 d5 d6 : Int) (B : List Value → AH → Prop) (Q : AExit → List Value → AH → Prop) : once 0 Tryz.prog SFb [] noHooks 900 102 [0, 1, 2, 3, 4, 10, 12, 13, 14, 15, 16] [] [1, 3, 4, 10, 12, 13] [] (oneLoop (codeOf Tryz.f188) 11) [.slice none 0 0, .int .u64 u, .int .i64 16, .bool false, .bool false, .slice none 0 0, .pointer (some ⟨0, 0, none⟩), .int .i64 58, .int .u64 4, .int .u64 16, .int .u64 15] (fH [d0, d1, d2, d3, d4, d5, d6]) B Q =
    bif decide (u ≥ 16) then bif inD (dgI u) then B [.slice none 0 0, .int .u64 (u.fdiv 16), .int .i64 16, .bool false, .bool false, .slice none 0 0, .pointer (some ⟨0, 0, none⟩), .int .i64 57, .int .u64 4, .int .u64 16, .int .u64 15] (fH (bT dgB (dgI u) :: [d0, d1, d2, d3, d4, d5, d6])) else False else Q (.exit 0) [.int .u64 u, .bool false, .bool false, .slice none 0 0, .pointer (some ⟨0, 0, none⟩), .int .i64 58] (fH [d0, d1, d2, d3, d4, d5, d6]) := by kernel_rfl
set_option maxRecDepth 20000 in
theorem ff7 (x u : Int) (d0 d1 d2 d3 d4 d5 d6 : Int) (C : List Value → AH → Prop) (Q : Value → Prop) : tfn Tryz.prog SFb [] (hook1 11 (hookLS 0 102 [0, 1, 2, 3, 4, 10, 12, 13, 14, 15, 16] [] [1, 3, 4, 10, 12, 13] (fun vals h K => C vals h ∧ K (.exit 0) [.int .u64 u, .bool false, .bool false, .slice none 0 0, .pointer (some ⟨0, 0, none⟩), .int .i64 58] (fH [d0, d1, d2, d3, d4, d5, d6])))) 900 [] Tryz.f188 [.slice none 0 0, .int .u64 x, .int .i64 16, .bool false, .bool false] h0 (fun v _ => Q v) =
    (C [.slice none 0 0, .int .u64 x, .int .i64 16, .bool false, .bool false, .slice none 0 0, .pointer (some ⟨0, 0, none⟩), .int .i64 65, .int .u64 4, .int .u64 16, .int .u64 15] (fH []) ∧ bif inD u then stT (bT dgB u :: [d0, d1, d2, d3, d4, d5, d6]) fun s => Q (.tuple ⟨[.slice none 0 0, .string s]⟩) else False) := by kernel_rfl
set_option maxRecDepth 20000 in
theorem fb8 (u : Int) (d0 d1 d2 d3 d4 d5 d6 d7 : Int) (B : List Value → AH → Prop) (Q : AExit → List Value → AH → Prop) : once 0 Tryz.prog SFb [] noHooks 900 102 [0, 1, 2, 3, 4, 10, 12, 13, 14, 15, 16] [] [1, 3, 4, 10, 12, 13] [] (oneLoop (codeOf Tryz.f188) 11) [.slice none 0 0, .int .u64 u, .int .i64 16, .bool false, .bool false, .slice none 0 0, .pointer (some ⟨0, 0, none⟩), .int .i64 57, .int .u64 4, .int .u64 16, .int .u64 15] (fH [d0, d1, d2, d3, d4, d5, d6, d7]) B Q =
    bif decide (u ≥ 16) then bif inD (dgI u) then B [.slice none 0 0, .int .u64 (u.fdiv 16), .int .i64 16, .bool false, .bool false, .slice none 0 0, .pointer (some ⟨0, 0, none⟩), .int .i64 56, .int .u64 4, .int .u64 16, .int .u64 15] (fH (bT dgB (dgI u) :: [d0, d1, d2, d3, d4, d5, d6, d7])) else False else Q (.exit 0) [.int .u64 u, .bool false, .bool false, .slice none 0 0, .pointer (some ⟨0, 0, none⟩), .int .i64 57] (fH [d0, d1, d2, d3, d4, d5, d6, d7]) := by kernel_rfl
set_option maxRecDepth 20000 in
theorem ff8 (x u : Int) (d0 d1 d2 d3 d4 d5 d6 d7 : Int) (C : List Value → AH → Prop) (Q : Value → Prop) : tfn Tryz.prog SFb [] (hook1 11 (hookLS 0 102 [0, 1, 2, 3, 4, 10, 12, 13, 14, 15, 16] [] [1, 3, 4, 10, 12, 13] (fun vals h K => C vals h ∧ K (.exit 0) [.int .u64 u, .bool false, .bool false, .slice none 0 0, .pointer (some ⟨0, 0, none⟩), .int .i64 57] (fH [d0, d1, d2, d3, d4, d5, d6, d7])))) 900 [] Tryz.f188 [.slice none 0 0, .int .u64 x, .int .i64 16, .bool false, .bool false] h0 (fun v _ => Q v) =
    (C [.slice none 0 0, .int .u64 x, .int .i64 16, .bool false, .bool false, .slice none 0 0, .pointer (some ⟨0, 0, none⟩), .int .i64 65, .int .u64 4, .int .u64 16, .int .u64 15] (fH []) ∧ bif inD u then stT (bT dgB u :: [d0, d1, d2, d3, d4, d5, d6, d7]) fun s => Q (.tuple ⟨[.slice none 0 0, .string s]⟩) else False) := by kernel_rfl
set_option maxRecDepth 20000 in
theorem fb9 (u : Int) (d0 d1 d2 d3 d4 d5 d6 d7 d8 : Int) (B : List Value → AH → Prop) (Q : AExit → List Value → AH → Prop) : once 0 Tryz.prog SFb [] noHooks 900 102 [0, 1, 2, 3, 4, 10, 12, 13, 14, 15, 16] [] [1, 3, 4, 10, 12, 13] [] (oneLoop (codeOf Tryz.f188) 11) [.slice none 0 0, .int .u64 u, .int .i64 16, .bool false, .bool false, .slice none 0 0, .pointer (some ⟨0, 0, none⟩), .int .i64 56, .int .u64 4, .int .u64 16, .int .u64 15] (fH [d0, d1, d2, d3, d4, d5, d6, d7, d8]) B Q =
    bif decide (u ≥ 16) then bif inD (dgI u) then B [.slice none 0 0, .int .u64 (u.fdiv 16), .int .i64 16, .bool false, .bool false, .slice none 0 0, .pointer (some ⟨0, 0, none⟩), .int .i64 55, .int .u64 4, .int .u64 16, .int .u64 15] (fH (bT dgB (dgI u) :: [d0, d1, d2, d3, d4, d5, d6, d7, d8])) else False else Q (.exit 0) [.int .u64 u, .bool false, .bool false, .slice none 0 0, .pointer (some ⟨0, 0, none⟩), .int .i64 56] (fH [d0, d1, d2, d3, d4, d5, d6, d7, d8]) := by kernel_rfl
set_option maxRecDepth 20000 in
theorem ff9 (x u : Int) (d0 d1 d2 d3 d4 d5 d6 d7 d8 : Int) (C : List Value → AH → Prop) (Q : Value → Prop) : tfn Tryz.prog SFb [] (hook1 11 (hookLS 0 102 [0, 1, 2, 3, 4, 10, 12, 13, 14, 15, 16] [] [1, 3, 4, 10, 12, 13] (fun vals h K => C vals h ∧ K (.exit 0) [.int .u64 u, .bool false, .bool false, .slice none 0 0, .pointer (some ⟨0, 0, none⟩), .int .i64 56] (fH [d0, d1, d2, d3, d4, d5, d6, d7, d8])))) 900 [] Tryz.f188 [.slice none 0 0, .int .u64 x, .int .i64 16, .bool false, .bool false] h0 (fun v _ => Q v) =
    (C [.slice none 0 0, .int .u64 x, .int .i64 16, .bool false, .bool false, .slice none 0 0, .pointer (some ⟨0, 0, none⟩), .int .i64 65, .int .u64 4, .int .u64 16, .int .u64 15] (fH []) ∧ bif inD u then stT (bT dgB u :: [d0, d1, d2, d3, d4, d5, d6, d7, d8]) fun s => Q (.tuple ⟨[.slice none 0 0, .string s]⟩) else False) := by kernel_rfl
set_option maxRecDepth 20000 in
theorem fb10 (u : Int) (d0 d1 d2 d3 d4 d5 d6 d7 d8 d9 : Int) (B : List Value → AH → Prop) (Q : AExit → List Value → AH → Prop) : once 0 Tryz.prog SFb [] noHooks 900 102 [0, 1, 2, 3, 4, 10, 12, 13, 14, 15, 16] [] [1, 3, 4, 10, 12, 13] [] (oneLoop (codeOf Tryz.f188) 11) [.slice none 0 0, .int .u64 u, .int .i64 16, .bool false, .bool false, .slice none 0 0, .pointer (some ⟨0, 0, none⟩), .int .i64 55, .int .u64 4, .int .u64 16, .int .u64 15] (fH [d0, d1, d2, d3, d4, d5, d6, d7, d8, d9]) B Q =
    bif decide (u ≥ 16) then bif inD (dgI u) then B [.slice none 0 0, .int .u64 (u.fdiv 16), .int .i64 16, .bool false, .bool false, .slice none 0 0, .pointer (some ⟨0, 0, none⟩), .int .i64 54, .int .u64 4, .int .u64 16, .int .u64 15] (fH (bT dgB (dgI u) :: [d0, d1, d2, d3, d4, d5, d6, d7, d8, d9])) else False else Q (.exit 0) [.int .u64 u, .bool false, .bool false, .slice none 0 0, .pointer (some ⟨0, 0, none⟩), .int .i64 55] (fH [d0, d1, d2, d3, d4, d5, d6, d7, d8, d9]) := by kernel_rfl
set_option maxRecDepth 20000 in
theorem ff10 (x u : Int) (d0 d1 d2 d3 d4 d5 d6 d7 d8 d9 : Int) (C : List Value → AH → Prop) (Q : Value → Prop) : tfn Tryz.prog SFb [] (hook1 11 (hookLS 0 102 [0, 1, 2, 3, 4, 10, 12, 13, 14, 15, 16] [] [1, 3, 4, 10, 12, 13] (fun vals h K => C vals h ∧ K (.exit 0) [.int .u64 u, .bool false, .bool false, .slice none 0 0, .pointer (some ⟨0, 0, none⟩), .int .i64 55] (fH [d0, d1, d2, d3, d4, d5, d6, d7, d8, d9])))) 900 [] Tryz.f188 [.slice none 0 0, .int .u64 x, .int .i64 16, .bool false, .bool false] h0 (fun v _ => Q v) =
    (C [.slice none 0 0, .int .u64 x, .int .i64 16, .bool false, .bool false, .slice none 0 0, .pointer (some ⟨0, 0, none⟩), .int .i64 65, .int .u64 4, .int .u64 16, .int .u64 15] (fH []) ∧ bif inD u then stT (bT dgB u :: [d0, d1, d2, d3, d4, d5, d6, d7, d8, d9]) fun s => Q (.tuple ⟨[.slice none 0 0, .string s]⟩) else False) := by kernel_rfl
set_option maxRecDepth 20000 in
theorem fb11 (u : Int) (d0 d1 d2 d3 d4 d5 d6 d7 d8 d9 d10 : Int) (B : List Value → AH → Prop) (Q : AExit → List Value → AH → Prop) : once 0 Tryz.prog SFb [] noHooks 900 102 [0, 1, 2, 3, 4, 10, 12, 13, 14, 15, 16] [] [1, 3, 4, 10, 12, 13] [] (oneLoop (codeOf Tryz.f188) 11) [.slice none 0 0, .int .u64 u, .int .i64 16, .bool false, .bool false, .slice none 0 0, .pointer (some ⟨0, 0, none⟩), .int .i64 54, .int .u64 4, .int .u64 16, .int .u64 15] (fH [d0, d1, d2, d3, d4, d5, d6, d7, d8, d9, d10]) B Q =
    bif decide (u ≥ 16) then bif inD (dgI u) then B [.slice none 0 0, .int .u64 (u.fdiv 16), .int .i64 16, .bool false, .bool false, .slice none 0 0, .pointer (some ⟨0, 0, none⟩), .int .i64 53, .int .u64 4, .int .u64 16, .int .u64 15] (fH (bT dgB (dgI u) :: [d0, d1, d2, d3, d4, d5, d6, d7, d8, d9, d10])) else False else Q (.exit 0) [.int .u64 u, .bool false, .bool false, .slice none 0 0, .pointer (some ⟨0, 0, none⟩), .int .i64 54] (fH [d0, d1, d2, d3, d4, d5, d6, d7, d8, d9, d10]) := by kernel_rfl
set_option maxRecDepth 20000 in
theorem ff11 (x u : Int) (d0 d1 d2 d3 d4 d5 d6 d7 d8 d9 d10 : Int) (C : List Value → AH → Prop) (Q : Value → Prop) : tfn Tryz.prog SFb [] (hook1 11 (hookLS 0 102 [0, 1, 2, 3, 4, 10, 12, 13, 14, 15, 16] [] [1, 3, 4, 10, 12, 13] (fun vals h K => C vals h ∧ K (.exit 0) [.int .u64 u, .bool false, .bool false, .slice none 0 0, .pointer (some ⟨0, 0, none⟩), .int .i64 54] (fH [d0, d1, d2, d3, d4, d5, d6, d7, d8, d9, d10])))) 900 [] Tryz.f188 [.slice none 0 0, .int .u64 x, .int .i64 16, .bool false, .bool false] h0 (fun v _ => Q v) =
    (C [.slice none 0 0, .int .u64 x, .int .i64 16, .bool false, .bool false, .slice none 0 0, .pointer (some ⟨0, 0, none⟩), .int .i64 65, .int .u64 4, .int .u64 16, .int .u64 15] (fH []) ∧ bif inD u then stT (bT dgB u :: [d0, d1, d2, d3, d4, d5, d6, d7, d8, d9, d10]) fun s => Q (.tuple ⟨[.slice none 0 0, .string s]⟩) else False) := by kernel_rfl
set_option maxRecDepth 20000 in
theorem fb12 (u : Int) (d0 d1 d2 d3 d4 d5 d6 d7 d8 d9 d10 d11 : Int) (B : List Value → AH → Prop) (Q : AExit → List Value → AH → Prop) : once 0 Tryz.prog SFb [] noHooks 900 102 [0, 1, 2, 3, 4, 10, 12, 13, 14, 15, 16] [] [1, 3, 4, 10, 12, 13] [] (oneLoop (codeOf Tryz.f188) 11) [.slice none 0 0, .int .u64 u, .int .i64 16, .bool false, .bool false, .slice none 0 0, .pointer (some ⟨0, 0, none⟩), .int .i64 53, .int .u64 4, .int .u64 16, .int .u64 15] (fH [d0, d1, d2, d3, d4, d5, d6, d7, d8, d9, d10, d11]) B Q =
    bif decide (u ≥ 16) then bif inD (dgI u) then B [.slice none 0 0, .int .u64 (u.fdiv 16), .int .i64 16, .bool false, .bool false, .slice none 0 0, .pointer (some ⟨0, 0, none⟩), .int .i64 52, .int .u64 4, .int .u64 16, .int .u64 15] (fH (bT dgB (dgI u) :: [d0, d1, d2, d3, d4, d5, d6, d7, d8, d9, d10, d11])) else False else Q (.exit 0) [.int .u64 u, .bool false, .bool false, .slice none 0 0, .pointer (some ⟨0, 0, none⟩), .int .i64 53] (fH [d0, d1, d2, d3, d4, d5, d6, d7, d8, d9, d10, d11]) := by kernel_rfl
set_option maxRecDepth 20000 in
theorem ff12 (x u : Int) (d0 d1 d2 d3 d4 d5 d6 d7 d8 d9 d10 d11 : Int) (C : List Value → AH → Prop) (Q : Value → Prop) : tfn Tryz.prog SFb [] (hook1 11 (hookLS 0 102 [0, 1, 2, 3, 4, 10, 12, 13, 14, 15, 16] [] [1, 3, 4, 10, 12, 13] (fun vals h K => C vals h ∧ K (.exit 0) [.int .u64 u, .bool false, .bool false, .slice none 0 0, .pointer (some ⟨0, 0, none⟩), .int .i64 53] (fH [d0, d1, d2, d3, d4, d5, d6, d7, d8, d9, d10, d11])))) 900 [] Tryz.f188 [.slice none 0 0, .int .u64 x, .int .i64 16, .bool false, .bool false] h0 (fun v _ => Q v) =
    (C [.slice none 0 0, .int .u64 x, .int .i64 16, .bool false, .bool false, .slice none 0 0, .pointer (some ⟨0, 0, none⟩), .int .i64 65, .int .u64 4, .int .u64 16, .int .u64 15] (fH []) ∧ bif inD u then stT (bT dgB u :: [d0, d1, d2, d3, d4, d5, d6, d7, d8, d9, d10, d11]) fun s => Q (.tuple ⟨[.slice none 0 0, .string s]⟩) else False) := by kernel_rfl
set_option maxRecDepth 20000 in
theorem fb13 (u : Int) (d0 d1 d2 d3 d4 d5 d6 d7 d8 d9 d10 d11 d12 : Int) (B : List Value → AH → Prop) (Q : AExit → List Value → AH → Prop) : once 0 Tryz.prog SFb [] noHooks 900 102 [0, 1, 2, 3, 4, 10, 12, 13, 14, 15, 16] [] [1, 3, 4, 10, 12, 13] [] (oneLoop (codeOf Tryz.f188) 11) [.slice none 0 0, .int .u64 u, .int .i64 16, .bool false, .bool false, .slice none 0 0, .pointer (some ⟨0, 0, none⟩), .int .i64 52, .int .u64 4, .int .u64 16, .int .u64 15] (fH [d0, d1, d2, d3, d4, d5, d6, d7, d8, d9, d10, d11, d12]) B Q =
    bif decide (u ≥ 16) then bif inD (dgI u) then B [.slice none 0 0, .int .u64 (u.fdiv 16), .int .i64 16, .bool false, .bool false, .slice none 0 0, .pointer (some ⟨0, 0, none⟩), .int .i64 51, .int .u64 4, .int .u64 16, .int .u64 15] (fH (bT dgB (dgI u) :: [d0, d1, d2, d3, d4, d5, d6, d7, d8, d9, d10, d11, d12])) else False else Q (.exit 0) [.int .u64 u, .bool false, .bool false, .slice none 0 0, .pointer (some ⟨0, 0, none⟩), .int .i64 52] (fH [d0, d1, d2, d3, d4, d5, d6, d7, d8, d9, d10, d11, d12]) := by kernel_rfl
set_option maxRecDepth 20000 in
theorem ff13 (x u : Int) (d0 d1 d2 d3 d4 d5 d6 d7 d8 d9 d10 d11 d12 : Int) (C : List Value → AH → Prop) (Q : Value → Prop) : tfn Tryz.prog SFb [] (hook1 11 (hookLS 0 102 [0, 1, 2, 3, 4, 10, 12, 13, 14, 15, 16] [] [1, 3, 4, 10, 12, 13] (fun vals h K => C vals h ∧ K (.exit 0) [.int .u64 u, .bool false, .bool false, .slice none 0 0, .pointer (some ⟨0, 0, none⟩), .int .i64 52] (fH [d0, d1, d2, d3, d4, d5, d6, d7, d8, d9, d10, d11, d12])))) 900 [] Tryz.f188 [.slice none 0 0, .int .u64 x, .int .i64 16, .bool false, .bool false] h0 (fun v _ => Q v) =
    (C [.slice none 0 0, .int .u64 x, .int .i64 16, .bool false, .bool false, .slice none 0 0, .pointer (some ⟨0, 0, none⟩), .int .i64 65, .int .u64 4, .int .u64 16, .int .u64 15] (fH []) ∧ bif inD u then stT (bT dgB u :: [d0, d1, d2, d3, d4, d5, d6, d7, d8, d9, d10, d11, d12]) fun s => Q (.tuple ⟨[.slice none 0 0, .string s]⟩) else False) := by kernel_rfl
set_option maxRecDepth 20000 in
theorem fb14 (u : Int) (d0 d1 d2 d3 d4 d5 d6 d7 d8 d9 d10 d11 d12 d13 : Int) (B : List Value → AH → Prop) (Q : AExit → List Value → AH → Prop) : once 0 Tryz.prog SFb [] noHooks 900 102 [0, 1, 2, 3, 4, 10, 12, 13, 14, 15, 16] [] [1, 3, 4, 10, 12, 13] [] (oneLoop (codeOf Tryz.f188) 11) [.slice none 0 0, .int .u64 u, .int .i64 16, .bool false, .bool false, .slice none 0 0, .pointer (some ⟨0, 0, none⟩), .int .i64 51, .int .u64 4, .int .u64 16, .int .u64 15] (fH [d0, d1, d2, d3, d4, d5, d6, d7, d8, d9, d10, d11, d12, d13]) B Q =
    bif decide (u ≥ 16) then bif inD (dgI u) then B [.slice none 0 0, .int .u64 (u.fdiv 16), .int .i64 16, .bool false, .bool false, .slice none 0 0, .pointer (some ⟨0, 0, none⟩), .int .i64 50, .int .u64 4, .int .u64 16, .int .u64 15] (fH (bT dgB (dgI u) :: [d0, d1, d2, d3, d4, d5, d6, d7, d8, d9, d10, d11, d12, d13])) else False else Q (.exit 0) [.int .u64 u, .bool false, .bool false, .slice none 0 0, .pointer (some ⟨0, 0, none⟩), .int .i64 51] (fH [d0, d1, d2, d3, d4, d5, d6, d7, d8, d9, d10, d11, d12, d13]) := by kernel_rfl
set_option maxRecDepth 20000 in
theorem ff14 (x u : Int) (d0 d1 d2 d3 d4 d5 d6 d7 d8 d9 d10 d11 d12 d13 : Int) (C : List Value → AH → Prop) (Q : Value → Prop) : tfn Tryz.prog SFb [] (hook1 11 (hookLS 0 102 [0, 1, 2, 3, 4, 10, 12, 13, 14, 15, 16] [] [1, 3, 4, 10, 12, 13] (fun vals h K => C vals h ∧ K (.exit 0) [.int .u64 u, .bool false, .bool false, .slice none 0 0, .pointer (some ⟨0, 0, none⟩), .int .i64 51] (fH [d0, d1, d2, d3, d4, d5, d6, d7, d8, d9, d10, d11, d12, d13])))) 900 [] Tryz.f188 [.slice none 0 0, .int .u64 x, .int .i64 16, .bool false, .bool false] h0 (fun v _ => Q v) =
    (C [.slice none 0 0, .int .u64 x, .int .i64 16, .bool false, .bool false, .slice none 0 0, .pointer (some ⟨0, 0, none⟩), .int .i64 65, .int .u64 4, .int .u64 16, .int .u64 15] (fH []) ∧ bif inD u then stT (bT dgB u :: [d0, d1, d2, d3, d4, d5, d6, d7, d8, d9, d10, d11, d12, d13]) fun s => Q (.tuple ⟨[.slice none 0 0, .string s]⟩) else False) := by kernel_rfl
set_option maxRecDepth 20000 in
theorem fb15 (u : Int) (d0 d1 d2 d3 d4 d5 d6 d7 d8 d9 d10 d11 d12 d13 d14 : Int) (B : List Value → AH → Prop) (Q : AExit → List Value → AH → Prop) : once 0 Tryz.prog SFb [] noHooks 900 102 [0, 1, 2, 3, 4, 10, 12, 13, 14, 15, 16] [] [1, 3, 4, 10, 12, 13] [] (oneLoop (codeOf Tryz.f188) 11) [.slice none 0 0, .int .u64 u, .int .i64 16, .bool false, .bool false, .slice none 0 0, .pointer (some ⟨0, 0, none⟩), .int .i64 50, .int .u64 4, .int .u64 16, .int .u64 15] (fH [d0, d1, d2, d3, d4, d5, d6, d7, d8, d9, d10, d11, d12, d13, d14]) B Q =
    bif decide (u ≥ 16) then bif inD (dgI u) then B [.slice none 0 0, .int .u64 (u.fdiv 16), .int .i64 16, .bool false, .bool false, .slice none 0 0, .pointer (some ⟨0, 0, none⟩), .int .i64 49, .int .u64 4, .int .u64 16, .int .u64 15] (fH (bT dgB (dgI u) :: [d0, d1, d2, d3, d4, d5, d6, d7, d8, d9, d10, d11, d12, d13, d14])) else False else Q (.exit 0) [.int .u64 u, .bool false, .bool false, .slice none 0 0, .pointer (some ⟨0, 0, none⟩), .int .i64 50] (fH [d0, d1, d2, d3, d4, d5, d6, d7, d8, d9, d10, d11, d12, d13, d14]) := by kernel_rfl
set_option maxRecDepth 20000 in
theorem ff15 (x u : Int) (d0 d1 d2 d3 d4 d5 d6 d7 d8 d9 d10 d11 d12 d13 d14 : Int) (C : List Value → AH → Prop) (Q : Value → Prop) : tfn Tryz.prog SFb [] (hook1 11 (hookLS 0 102 [0, 1, 2, 3, 4, 10, 12, 13, 14, 15, 16] [] [1, 3, 4, 10, 12, 13] (fun vals h K => C vals h ∧ K (.exit 0) [.int .u64 u, .bool false, .bool false, .slice none 0 0, .pointer (some ⟨0, 0, none⟩), .int .i64 50] (fH [d0, d1, d2, d3, d4, d5, d6, d7, d8, d9, d10, d11, d12, d13, d14])))) 900 [] Tryz.f188 [.slice none 0 0, .int .u64 x, .int .i64 16, .bool false, .bool false] h0 (fun v _ => Q v) =
    (C [.slice none 0 0, .int .u64 x, .int .i64 16, .bool false, .bool false, .slice none 0 0, .pointer (some ⟨0, 0, none⟩), .int .i64 65, .int .u64 4, .int .u64 16, .int .u64 15] (fH []) ∧ bif inD u then stT (bT dgB u :: [d0, d1, d2, d3, d4, d5, d6, d7, d8, d9, d10, d11, d12, d13, d14]) fun s => Q (.tuple ⟨[.slice none 0 0, .string s]⟩) else False) := by kernel_rfl
theorem oneFB : (loopAt (codeOf Tryz.f188) 11).length = 1 := by kernel_rfl
theorem someFB : Tryz.f188.body.isSome = true := by kernel_rfl
/-! plain: what the digits are -/
def okD (d : Int) : Prop := ∃ c : UInt8, d = (c.toNat : Int) ∧ c ≠ 46
theorem dg_ok : ∀ k < 36, okD (bT dgB ((k : Nat) : Int)) := by
  have : ∀ k < 36, (dgB.data.toList.getD k 0) ≠ 46 := by decide +kernel
  intro k hk
  exact ⟨dgB.data.toList.getD k 0, by unfold bT; rw [Int.toNat_natCast], this k hk⟩
theorem inD_nat {k : Nat} (h : k < 36) : inD (k : Int) = true := by
  unfold inD
  rw [show (dgB.size : Int) = 36 from rfl, decide_eq_true (show (0 : Int) ≤ (k : Int) by omega), decide_eq_true (show (k : Int) < 36 by omega)]
  rfl
theorem u64_nat {n : Nat} (h : n < 18446744073709551616) : IntKind.u64.wrap (n : Int) = (n : Int) := by
  unfold IntKind.wrap
  show (let m := (n : Int) % (2 ^ 64 : Int); if false && _ then _ else m) = _
  simp
  omega
theorem dgI_nat {u : Nat} (h : u < 18446744073709551616) : dgI (u : Int) = ((u % 16 : Nat) : Int) := by
  unfold dgI
  rw [show BitVec.ofInt 64 15 = BitVec.ofNat 64 15 from rfl, ofInt_nat, BitVec.toNat_and, BitVec.toNat_ofNat, BitVec.toNat_ofNat, Nat.mod_eq_of_lt (by omega), Nat.mod_eq_of_lt (by omega)]
  have : u &&& 15 = u % 16 := Nat.and_two_pow_sub_one_eq_mod u 4
  rw [this, u64_nat (by omega)]
def fbV (u : Nat) (n : Nat) : List Value := [.slice none 0 0, .int .u64 (u : Int), .int .i64 16, .bool false, .bool false, .slice none 0 0, .pointer (some ⟨0, 0, none⟩), .int .i64 ((65 - n : Nat) : Int), .int .u64 4, .int .u64 16, .int .u64 15]
def fbX (u : Nat) (n : Nat) : List Value := [.int .u64 (u : Int), .bool false, .bool false, .slice none 0 0, .pointer (some ⟨0, 0, none⟩), .int .i64 ((65 - n : Nat) : Int)]
theorem fd16 (u : Nat) : (u : Int).fdiv 16 = ((u / 16 : Nat) : Int) := (Int.ofNat_fdiv u 16).symm
theorem fb_step {u : Nat} (hu : u < 18446744073709551616) (B : List Value → AH → Prop) (Q : AExit → List Value → AH → Prop) : ∀ (ds : List Int), ds.length ≤ 15 →
    (16 ≤ u → B (fbV (u / 16) (ds.length + 1)) (fH (bT dgB ((u % 16 : Nat) : Int) :: ds))) → (u < 16 → Q (.exit 0) (fbX u ds.length) (fH ds)) → once 0 Tryz.prog SFb [] noHooks 900 102 [0, 1, 2, 3, 4, 10, 12, 13, 14, 15, 16] [] [1, 3, 4, 10, 12, 13] [] (oneLoop (codeOf Tryz.f188) 11) (fbV u ds.length) (fH ds) B Q
  | [], _, hB, hQ => by
    refine (fb0 (u : Int)  B Q).mpr ?_
    rw [dgI_nat hu, fd16]
    by_cases h : 16 ≤ u
    · exact pick_t (decide_eq_true (by omega)) (need_mk (inD_nat (by omega)) (hB h))
    · exact pick_f (decide_eq_false (by omega)) (hQ (by omega))
  | [d0], _, hB, hQ => by
    refine (fb1 (u : Int) d0 B Q).mpr ?_
    rw [dgI_nat hu, fd16]
    by_cases h : 16 ≤ u
    · exact pick_t (decide_eq_true (by omega)) (need_mk (inD_nat (by omega)) (hB h))
    · exact pick_f (decide_eq_false (by omega)) (hQ (by omega))
  | [d0, d1], _, hB, hQ => by
    refine (fb2 (u : Int) d0 d1 B Q).mpr ?_
    rw [dgI_nat hu, fd16]
    by_cases h : 16 ≤ u
    · exact pick_t (decide_eq_true (by omega)) (need_mk (inD_nat (by omega)) (hB h))
    · exact pick_f (decide_eq_false (by omega)) (hQ (by omega))
  | [d0, d1, d2], _, hB, hQ => by
    refine (fb3 (u : Int) d0 d1 d2 B Q).mpr ?_
    rw [dgI_nat hu, fd16]
    by_cases h : 16 ≤ u
    · exact pick_t (decide_eq_true (by omega)) (need_mk (inD_nat (by omega)) (hB h))
    · exact pick_f (decide_eq_false (by omega)) (hQ (by omega))
  | [d0, d1, d2, d3], _, hB, hQ => by
    refine (fb4 (u : Int) d0 d1 d2 d3 B Q).mpr ?_
    rw [dgI_nat hu, fd16]
    by_cases h : 16 ≤ u
    · exact pick_t (decide_eq_true (by omega)) (need_mk (inD_nat (by omega)) (hB h))
    · exact pick_f (decide_eq_false (by omega)) (hQ (by omega))
  | [d0, d1, d2, d3, d4], _, hB, hQ => by
    refine (fb5 (u : Int) d0 d1 d2 d3 d4 B Q).mpr ?_
    rw [dgI_nat hu, fd16]
    by_cases h : 16 ≤ u
    · exact pick_t (decide_eq_true (by omega)) (need_mk (inD_nat (by omega)) (hB h))
    · exact pick_f (decide_eq_false (by omega)) (hQ (by omega))
  | [d0, d1, d2, d3, d4, d5], _, hB, hQ => by
    refine (fb6 (u : Int) d0 d1 d2 d3 d4 d5 B Q).mpr ?_
    rw [dgI_nat hu, fd16]
    by_cases h : 16 ≤ u
    · exact pick_t (decide_eq_true (by omega)) (need_mk (inD_nat (by omega)) (hB h))
    · exact pick_f (decide_eq_false (by omega)) (hQ (by omega))
  | [d0, d1, d2, d3, d4, d5, d6], _, hB, hQ => by
    refine (fb7 (u : Int) d0 d1 d2 d3 d4 d5 d6 B Q).mpr ?_
    rw [dgI_nat hu, fd16]
    by_cases h : 16 ≤ u
    · exact pick_t (decide_eq_true (by omega)) (need_mk (inD_nat (by omega)) (hB h))
    · exact pick_f (decide_eq_false (by omega)) (hQ (by omega))
  | [d0, d1, d2, d3, d4, d5, d6, d7], _, hB, hQ => by
    refine (fb8 (u : Int) d0 d1 d2 d3 d4 d5 d6 d7 B Q).mpr ?_
    rw [dgI_nat hu, fd16]
    by_cases h : 16 ≤ u
    · exact pick_t (decide_eq_true (by omega)) (need_mk (inD_nat (by omega)) (hB h))
    · exact pick_f (decide_eq_false (by omega)) (hQ (by omega))
  | [d0, d1, d2, d3, d4, d5, d6, d7, d8], _, hB, hQ => by
    refine (fb9 (u : Int) d0 d1 d2 d3 d4 d5 d6 d7 d8 B Q).mpr ?_
    rw [dgI_nat hu, fd16]
    by_cases h : 16 ≤ u
    · exact pick_t (decide_eq_true (by omega)) (need_mk (inD_nat (by omega)) (hB h))
    · exact pick_f (decide_eq_false (by omega)) (hQ (by omega))
  | [d0, d1, d2, d3, d4, d5, d6, d7, d8, d9], _, hB, hQ => by
    refine (fb10 (u : Int) d0 d1 d2 d3 d4 d5 d6 d7 d8 d9 B Q).mpr ?_
    rw [dgI_nat hu, fd16]
    by_cases h : 16 ≤ u
    · exact pick_t (decide_eq_true (by omega)) (need_mk (inD_nat (by omega)) (hB h))
    · exact pick_f (decide_eq_false (by omega)) (hQ (by omega))
  | [d0, d1, d2, d3, d4, d5, d6, d7, d8, d9, d10], _, hB, hQ => by
    refine (fb11 (u : Int) d0 d1 d2 d3 d4 d5 d6 d7 d8 d9 d10 B Q).mpr ?_
    rw [dgI_nat hu, fd16]
    by_cases h : 16 ≤ u
    · exact pick_t (decide_eq_true (by omega)) (need_mk (inD_nat (by omega)) (hB h))
    · exact pick_f (decide_eq_false (by omega)) (hQ (by omega))
  | [d0, d1, d2, d3, d4, d5, d6, d7, d8, d9, d10, d11], _, hB, hQ => by
    refine (fb12 (u : Int) d0 d1 d2 d3 d4 d5 d6 d7 d8 d9 d10 d11 B Q).mpr ?_
    rw [dgI_nat hu, fd16]
    by_cases h : 16 ≤ u
    · exact pick_t (decide_eq_true (by omega)) (need_mk (inD_nat (by omega)) (hB h))
    · exact pick_f (decide_eq_false (by omega)) (hQ (by omega))
  | [d0, d1, d2, d3, d4, d5, d6, d7, d8, d9, d10, d11, d12], _, hB, hQ => by
    refine (fb13 (u : Int) d0 d1 d2 d3 d4 d5 d6 d7 d8 d9 d10 d11 d12 B Q).mpr ?_
    rw [dgI_nat hu, fd16]
    by_cases h : 16 ≤ u
    · exact pick_t (decide_eq_true (by omega)) (need_mk (inD_nat (by omega)) (hB h))
    · exact pick_f (decide_eq_false (by omega)) (hQ (by omega))
  | [d0, d1, d2, d3, d4, d5, d6, d7, d8, d9, d10, d11, d12, d13], _, hB, hQ => by
    refine (fb14 (u : Int) d0 d1 d2 d3 d4 d5 d6 d7 d8 d9 d10 d11 d12 d13 B Q).mpr ?_
    rw [dgI_nat hu, fd16]
    by_cases h : 16 ≤ u
    · exact pick_t (decide_eq_true (by omega)) (need_mk (inD_nat (by omega)) (hB h))
    · exact pick_f (decide_eq_false (by omega)) (hQ (by omega))
  | [d0, d1, d2, d3, d4, d5, d6, d7, d8, d9, d10, d11, d12, d13, d14], _, hB, hQ => by
    refine (fb15 (u : Int) d0 d1 d2 d3 d4 d5 d6 d7 d8 d9 d10 d11 d12 d13 d14 B Q).mpr ?_
    rw [dgI_nat hu, fd16]
    by_cases h : 16 ≤ u
    · exact pick_t (decide_eq_true (by omega)) (need_mk (inD_nat (by omega)) (hB h))
    · exact pick_f (decide_eq_false (by omega)) (hQ (by omega))
  | _ :: _ :: _ :: _ :: _ :: _ :: _ :: _ :: _ :: _ :: _ :: _ :: _ :: _ :: _ :: _ :: _, h, _, _ => absurd h (by simp)
theorem fb_it (n : Nat) {vals : List Value} {h : AH} {K : AExit → List Value → AH → Prop} (hx : once 0 Tryz.prog SFb [] noHooks 900 102 [0, 1, 2, 3, 4, 10, 12, 13, 14, 15, 16] [] [1, 3, 4, 10, 12, 13] [] (oneLoop (codeOf Tryz.f188) 11) vals h (fun v g => iter 0 Tryz.prog SFb [] noHooks 900 102 [0, 1, 2, 3, 4, 10, 12, 13, 14, 15, 16] [] [1, 3, 4, 10, 12, 13] [] (oneLoop (codeOf Tryz.f188) 11) n v g K) K) : iter 0 Tryz.prog SFb [] noHooks 900 102 [0, 1, 2, 3, 4, 10, 12, 13, 14, 15, 16] [] [1, 3, 4, 10, 12, 13] [] (oneLoop (codeOf Tryz.f188) 11) (n + 1) vals h K := hx
theorem fb_loop : ∀ (m : Nat) (u : Nat) (ds : List Int), ds.length + m = 15 → u < 16 ^ (m + 1) →
    (∃ (u' : Nat) (ds' : List Int), u' < 16 ∧ ds'.length ≤ 15 ∧ ((∀ d ∈ ds, okD d) → ∀ d ∈ ds', okD d) ∧ ∀ K : AExit → List Value → AH → Prop, K (.exit 0) (fbX u' ds'.length) (fH ds') → iter 0 Tryz.prog SFb [] noHooks 900 102 [0, 1, 2, 3, 4, 10, 12, 13, 14, 15, 16] [] [1, 3, 4, 10, 12, 13] [] (oneLoop (codeOf Tryz.f188) 11) (m + 1) (fbV u ds.length) (fH ds) K)
  | m, u, ds, hl, hu => by
    have hu64 : u < 18446744073709551616 := Nat.lt_of_lt_of_le hu (by
      have : 16 ^ (m + 1) ≤ 16 ^ 16 := Nat.pow_le_pow_right (by decide) (by omega)
      exact Nat.le_trans this (by decide))
    by_cases h : 16 ≤ u
    · match m, hl, hu with
      | 0, hl, hu => exact absurd hu (by simp; omega)
      | m + 1, hl, hu =>
        have hq : u / 16 < 16 ^ (m + 1) := by
          rw [Nat.div_lt_iff_lt_mul (by decide)]
          rw [Nat.pow_succ] at hu
          exact hu
        obtain ⟨u', ds', g1, g2, g3, g4⟩ := fb_loop m (u / 16) (bT dgB ((u % 16 : Nat) : Int) :: ds) (by rw [List.length_cons]; omega) hq
        refine ⟨u', ds', g1, g2, fun hd => g3 fun d hm => ?_, fun K hK => fb_it _ (fb_step hu64 _ _ ds (by omega) (fun _ => g4 K hK) (fun q => absurd h (by omega)))⟩
        rcases List.mem_cons.1 hm with rfl | hm
        · exact dg_ok _ (by omega)
        · exact hd d hm
    · exact ⟨u, ds, by omega, by omega, fun hd => hd, fun K hK => fb_it _ (fb_step hu64 _ _ ds (by omega) (fun q => absurd q h) (fun _ => hK))⟩
theorem u8I_of {ds : List Int} (h : ∀ d ∈ ds, okD d) : ∃ l : Bs, ds.map u8I = l.map u8V ∧ (46 : UInt8) ∉ l ∧ l.length = ds.length := by
  induction ds with
  | nil => exact ⟨[], rfl, by simp, rfl⟩
  | cons d ds ih =>
    obtain ⟨c, rfl, hc⟩ := h d (by simp)
    obtain ⟨l, h1, h2, h3⟩ := ih fun x hx => h x (by simp [hx])
    exact ⟨c :: l, by rw [List.map_cons, List.map_cons, h1]; rfl, by simp only [List.mem_cons, not_or]; exact ⟨fun e => hc e.symm, h2⟩, by simp [h3]⟩
theorem stT_ok {ds : List Int} {l : Bs} (h : ds.map u8I = l.map u8V) {K : ByteArray → Prop} (hK : K (bl l)) : stT ds K := by
  unfold stT
  rw [h, u8_byte, u8_back]
  exact need_mk rfl hK
theorem inDx {u : Nat} (hu : u < 16) : inD (u : Int) = true := inD_nat (by omega)
theorem stk {ds : List Int} {l : Bs} (h : ds.map u8I = l.map u8V) : stT ds (fun s => (Value.tuple ⟨[.slice none 0 0, .string s]⟩ = .tuple ⟨[.slice none 0 0, strV l]⟩)) := stT_ok h rfl
theorem cnd {b : Bool} {a : Prop} (h : b = true) (ha : a) : (bif b then a else False) := need_mk h ha
attribute [local irreducible] stT inD bT in
theorem fb_at {x u : Nat} (hu : u < 16) : ∀ (ds : List Int), ds.length ≤ 15 → (∀ K : AExit → List Value → AH → Prop, K (.exit 0) (fbX u ds.length) (fH ds) → iter 0 Tryz.prog SFb [] noHooks 900 102 [0, 1, 2, 3, 4, 10, 12, 13, 14, 15, 16] [] [1, 3, 4, 10, 12, 13] [] (oneLoop (codeOf Tryz.f188) 11) 16 (fbV x 0) (fH []) K) → ∀ l : Bs, (bT dgB (u : Int) :: ds).map u8I = l.map u8V →
    FnOK 0 Tryz.prog 188 ⟨[.slice none 0 0, .int .u64 (x : Int), .int .i64 16, .bool false, .bool false]⟩ h0 (fun v _ => v = .tuple ⟨[.slice none 0 0, strV l]⟩)
  | [], _, hi, l, hl => by
    have hk : ∀ K : AExit → List Value → AH → Prop, K (.exit 0) (fbX u 0) (fH []) → iter 0 Tryz.prog SFb [] noHooks 900 102 [0, 1, 2, 3, 4, 10, 12, 13, 14, 15, 16] [] [1, 3, 4, 10, 12, 13] [] (oneLoop (codeOf Tryz.f188) 11) 16 (fbV x 0) (fH []) K := hi
    clear hi
    have hs := stk (ds := bT dgB (u : Int) :: []) hl
    have hd := inDx hu
    clear hu
    refine FnOK.ttree SFb_ok mixed Tryz.func188 someFB (loops_one oneFB (hook_ok (G := []) (L := noHooks) (f := 900) (sameX := []) SFb_ok mixed (by decide) (loops_none _ _ _ _) ?_)) (ff0 (x : Int) (u : Int)  (fun vals h => vals = fbV x 0 ∧ h = fH []) (fun v => v = .tuple ⟨[.slice none 0 0, strV l]⟩)) ?_
    · rintro vals h K ⟨⟨rfl, rfl⟩, hK⟩
      exact ⟨_, hk K hK⟩
    · exact ⟨⟨rfl, rfl⟩, cnd hd hs⟩
  | [d0], _, hi, l, hl => by
    have hk : ∀ K : AExit → List Value → AH → Prop, K (.exit 0) (fbX u 1) (fH [d0]) → iter 0 Tryz.prog SFb [] noHooks 900 102 [0, 1, 2, 3, 4, 10, 12, 13, 14, 15, 16] [] [1, 3, 4, 10, 12, 13] [] (oneLoop (codeOf Tryz.f188) 11) 16 (fbV x 0) (fH []) K := hi
    clear hi
    have hs := stk (ds := bT dgB (u : Int) :: [d0]) hl
    have hd := inDx hu
    clear hu
    refine FnOK.ttree SFb_ok mixed Tryz.func188 someFB (loops_one oneFB (hook_ok (G := []) (L := noHooks) (f := 900) (sameX := []) SFb_ok mixed (by decide) (loops_none _ _ _ _) ?_)) (ff1 (x : Int) (u : Int) d0 (fun vals h => vals = fbV x 0 ∧ h = fH []) (fun v => v = .tuple ⟨[.slice none 0 0, strV l]⟩)) ?_
    · rintro vals h K ⟨⟨rfl, rfl⟩, hK⟩
      exact ⟨_, hk K hK⟩
    · exact ⟨⟨rfl, rfl⟩, cnd hd hs⟩
  | [d0, d1], _, hi, l, hl => by
    have hk : ∀ K : AExit → List Value → AH → Prop, K (.exit 0) (fbX u 2) (fH [d0, d1]) → iter 0 Tryz.prog SFb [] noHooks 900 102 [0, 1, 2, 3, 4, 10, 12, 13, 14, 15, 16] [] [1, 3, 4, 10, 12, 13] [] (oneLoop (codeOf Tryz.f188) 11) 16 (fbV x 0) (fH []) K := hi
    clear hi
    have hs := stk (ds := bT dgB (u : Int) :: [d0, d1]) hl
    have hd := inDx hu
    clear hu
    refine FnOK.ttree SFb_ok mixed Tryz.func188 someFB (loops_one oneFB (hook_ok (G := []) (L := noHooks) (f := 900) (sameX := []) SFb_ok mixed (by decide) (loops_none _ _ _ _) ?_)) (ff2 (x : Int) (u : Int) d0 d1 (fun vals h => vals = fbV x 0 ∧ h = fH []) (fun v => v = .tuple ⟨[.slice none 0 0, strV l]⟩)) ?_
    · rintro vals h K ⟨⟨rfl, rfl⟩, hK⟩
      exact ⟨_, hk K hK⟩
    · exact ⟨⟨rfl, rfl⟩, cnd hd hs⟩
  | [d0, d1, d2], _, hi, l, hl => by
    have hk : ∀ K : AExit → List Value → AH → Prop, K (.exit 0) (fbX u 3) (fH [d0, d1, d2]) → iter 0 Tryz.prog SFb [] noHooks 900 102 [0, 1, 2, 3, 4, 10, 12, 13, 14, 15, 16] [] [1, 3, 4, 10, 12, 13] [] (oneLoop (codeOf Tryz.f188) 11) 16 (fbV x 0) (fH []) K := hi
    clear hi
    have hs := stk (ds := bT dgB (u : Int) :: [d0, d1, d2]) hl
    have hd := inDx hu
    clear hu
    refine FnOK.ttree SFb_ok mixed Tryz.func188 someFB (loops_one oneFB (hook_ok (G := []) (L := noHooks) (f := 900) (sameX := []) SFb_ok mixed (by decide) (loops_none _ _ _ _) ?_)) (ff3 (x : Int) (u : Int) d0 d1 d2 (fun vals h => vals = fbV x 0 ∧ h = fH []) (fun v => v = .tuple ⟨[.slice none 0 0, strV l]⟩)) ?_
    · rintro vals h K ⟨⟨rfl, rfl⟩, hK⟩
      exact ⟨_, hk K hK⟩
    · exact ⟨⟨rfl, rfl⟩, cnd hd hs⟩
  | [d0, d1, d2, d3], _, hi, l, hl => by
    have hk : ∀ K : AExit → List Value → AH → Prop, K (.exit 0) (fbX u 4) (fH [d0, d1, d2, d3]) → iter 0 Tryz.prog SFb [] noHooks 900 102 [0, 1, 2, 3, 4, 10, 12, 13, 14, 15, 16] [] [1, 3, 4, 10, 12, 13] [] (oneLoop (codeOf Tryz.f188) 11) 16 (fbV x 0) (fH []) K := hi
    clear hi
    have hs := stk (ds := bT dgB (u : Int) :: [d0, d1, d2, d3]) hl
    have hd := inDx hu
    clear hu
    refine FnOK.ttree SFb_ok mixed Tryz.func188 someFB (loops_one oneFB (hook_ok (G := []) (L := noHooks) (f := 900) (sameX := []) SFb_ok mixed (by decide) (loops_none _ _ _ _) ?_)) (ff4 (x : Int) (u : Int) d0 d1 d2 d3 (fun vals h => vals = fbV x 0 ∧ h = fH []) (fun v => v = .tuple ⟨[.slice none 0 0, strV l]⟩)) ?_
    · rintro vals h K ⟨⟨rfl, rfl⟩, hK⟩
      exact ⟨_, hk K hK⟩
    · exact ⟨⟨rfl, rfl⟩, cnd hd hs⟩
  | [d0, d1, d2, d3, d4], _, hi, l, hl => by
    have hk : ∀ K : AExit → List Value → AH → Prop, K (.exit 0) (fbX u 5) (fH [d0, d1, d2, d3, d4]) → iter 0 Tryz.prog SFb [] noHooks 900 102 [0, 1, 2, 3, 4, 10, 12, 13, 14, 15, 16] [] [1, 3, 4, 10, 12, 13] [] (oneLoop (codeOf Tryz.f188) 11) 16 (fbV x 0) (fH []) K := hi
    clear hi
    have hs := stk (ds := bT dgB (u : Int) :: [d0, d1, d2, d3, d4]) hl
    have hd := inDx hu
    clear hu
    refine FnOK.ttree SFb_ok mixed Tryz.func188 someFB (loops_one oneFB (hook_ok (G := []) (L := noHooks) (f := 900) (sameX := []) SFb_ok mixed (by decide) (loops_none _ _ _ _) ?_)) (ff5 (x : Int) (u : Int) d0 d1 d2 d3 d4 (fun vals h => vals = fbV x 0 ∧ h = fH []) (fun v => v = .tuple ⟨[.slice none 0 0, strV l]⟩)) ?_
    · rintro vals h K ⟨⟨rfl, rfl⟩, hK⟩
      exact ⟨_, hk K hK⟩
    · exact ⟨⟨rfl, rfl⟩, cnd hd hs⟩
  | [d0, d1, d2, d3, d4, d5], _, hi, l, hl => by
    have hk : ∀ K : AExit → List Value → AH → Prop, K (.exit 0) (fbX u 6) (fH [d0, d1, d2, d3, d4, d5]) → iter 0 Tryz.prog SFb [] noHooks 900 102 [0, 1, 2, 3, 4, 10, 12, 13, 14, 15, 16] [] [1, 3, 4, 10, 12, 13] [] (oneLoop (codeOf Tryz.f188) 11) 16 (fbV x 0) (fH []) K := hi
    clear hi
    have hs := stk (ds := bT dgB (u : Int) :: [d0, d1, d2, d3, d4, d5]) hl
    have hd := inDx hu
    clear hu
    refine FnOK.ttree SFb_ok mixed Tryz.func188 someFB (loops_one oneFB (hook_ok (G := []) (L := noHooks) (f := 900) (sameX := []) SFb_ok mixed (by decide) (loops_none _ _ _ _) ?_)) (ff6 (x : Int) (u : Int) d0 d1 d2 d3 d4 d5 (fun vals h => vals = fbV x 0 ∧ h = fH []) (fun v => v = .tuple ⟨[.slice none 0 0, strV l]⟩)) ?_
    · rintro vals h K ⟨⟨rfl, rfl⟩, hK⟩
      exact ⟨_, hk K hK⟩
    · exact ⟨⟨rfl, rfl⟩, cnd hd hs⟩
  | [d0, d1, d2, d3, d4, d5, d6], _, hi, l, hl => by
    have hk : ∀ K : AExit → List Value → AH → Prop, K (.exit 0) (fbX u 7) (fH [d0, d1, d2, d3, d4, d5, d6]) → iter 0 Tryz.prog SFb [] noHooks 900 102 [0, 1, 2, 3, 4, 10, 12, 13, 14, 15, 16] [] [1, 3, 4, 10, 12, 13] [] (oneLoop (codeOf Tryz.f188) 11) 16 (fbV x 0) (fH []) K := hi
    clear hi
    have hs := stk (ds := bT dgB (u : Int) :: [d0, d1, d2, d3, d4, d5, d6]) hl
    have hd := inDx hu
    clear hu
    refine FnOK.ttree SFb_ok mixed Tryz.func188 someFB (loops_one oneFB (hook_ok (G := []) (L := noHooks) (f := 900) (sameX := []) SFb_ok mixed (by decide) (loops_none _ _ _ _) ?_)) (ff7 (x : Int) (u : Int) d0 d1 d2 d3 d4 d5 d6 (fun vals h => vals = fbV x 0 ∧ h = fH []) (fun v => v = .tuple ⟨[.slice none 0 0, strV l]⟩)) ?_
    · rintro vals h K ⟨⟨rfl, rfl⟩, hK⟩
      exact ⟨_, hk K hK⟩
    · exact ⟨⟨rfl, rfl⟩, cnd hd hs⟩
  | [d0, d1, d2, d3, d4, d5, d6, d7], _, hi, l, hl => by
    have hk : ∀ K : AExit → List Value → AH → Prop, K (.exit 0) (fbX u 8) (fH [d0, d1, d2, d3, d4, d5, d6, d7]) → iter 0 Tryz.prog SFb [] noHooks 900 102 [0, 1, 2, 3, 4, 10, 12, 13, 14, 15, 16] [] [1, 3, 4, 10, 12, 13] [] (oneLoop (codeOf Tryz.f188) 11) 16 (fbV x 0) (fH []) K := hi
    clear hi
    have hs := stk (ds := bT dgB (u : Int) :: [d0, d1, d2, d3, d4, d5, d6, d7]) hl
    have hd := inDx hu
    clear hu
    refine FnOK.ttree SFb_ok mixed Tryz.func188 someFB (loops_one oneFB (hook_ok (G := []) (L := noHooks) (f := 900) (sameX := []) SFb_ok mixed (by decide) (loops_none _ _ _ _) ?_)) (ff8 (x : Int) (u : Int) d0 d1 d2 d3 d4 d5 d6 d7 (fun vals h => vals = fbV x 0 ∧ h = fH []) (fun v => v = .tuple ⟨[.slice none 0 0, strV l]⟩)) ?_
    · rintro vals h K ⟨⟨rfl, rfl⟩, hK⟩
      exact ⟨_, hk K hK⟩
    · exact ⟨⟨rfl, rfl⟩, cnd hd hs⟩
  | [d0, d1, d2, d3, d4, d5, d6, d7, d8], _, hi, l, hl => by
    have hk : ∀ K : AExit → List Value → AH → Prop, K (.exit 0) (fbX u 9) (fH [d0, d1, d2, d3, d4, d5, d6, d7, d8]) → iter 0 Tryz.prog SFb [] noHooks 900 102 [0, 1, 2, 3, 4, 10, 12, 13, 14, 15, 16] [] [1, 3, 4, 10, 12, 13] [] (oneLoop (codeOf Tryz.f188) 11) 16 (fbV x 0) (fH []) K := hi
    clear hi
    have hs := stk (ds := bT dgB (u : Int) :: [d0, d1, d2, d3, d4, d5, d6, d7, d8]) hl
    have hd := inDx hu
    clear hu
    refine FnOK.ttree SFb_ok mixed Tryz.func188 someFB (loops_one oneFB (hook_ok (G := []) (L := noHooks) (f := 900) (sameX := []) SFb_ok mixed (by decide) (loops_none _ _ _ _) ?_)) (ff9 (x : Int) (u : Int) d0 d1 d2 d3 d4 d5 d6 d7 d8 (fun vals h => vals = fbV x 0 ∧ h = fH []) (fun v => v = .tuple ⟨[.slice none 0 0, strV l]⟩)) ?_
    · rintro vals h K ⟨⟨rfl, rfl⟩, hK⟩
      exact ⟨_, hk K hK⟩
    · exact ⟨⟨rfl, rfl⟩, cnd hd hs⟩
  | [d0, d1, d2, d3, d4, d5, d6, d7, d8, d9], _, hi, l, hl => by
    have hk : ∀ K : AExit → List Value → AH → Prop, K (.exit 0) (fbX u 10) (fH [d0, d1, d2, d3, d4, d5, d6, d7, d8, d9]) → iter 0 Tryz.prog SFb [] noHooks 900 102 [0, 1, 2, 3, 4, 10, 12, 13, 14, 15, 16] [] [1, 3, 4, 10, 12, 13] [] (oneLoop (codeOf Tryz.f188) 11) 16 (fbV x 0) (fH []) K := hi
    clear hi
    have hs := stk (ds := bT dgB (u : Int) :: [d0, d1, d2, d3, d4, d5, d6, d7, d8, d9]) hl
    have hd := inDx hu
    clear hu
    refine FnOK.ttree SFb_ok mixed Tryz.func188 someFB (loops_one oneFB (hook_ok (G := []) (L := noHooks) (f := 900) (sameX := []) SFb_ok mixed (by decide) (loops_none _ _ _ _) ?_)) (ff10 (x : Int) (u : Int) d0 d1 d2 d3 d4 d5 d6 d7 d8 d9 (fun vals h => vals = fbV x 0 ∧ h = fH []) (fun v => v = .tuple ⟨[.slice none 0 0, strV l]⟩)) ?_
    · rintro vals h K ⟨⟨rfl, rfl⟩, hK⟩
      exact ⟨_, hk K hK⟩
    · exact ⟨⟨rfl, rfl⟩, cnd hd hs⟩
  | [d0, d1, d2, d3, d4, d5, d6, d7, d8, d9, d10], _, hi, l, hl => by
    have hk : ∀ K : AExit → List Value → AH → Prop, K (.exit 0) (fbX u 11) (fH [d0, d1, d2, d3, d4, d5, d6, d7, d8, d9, d10]) → iter 0 Tryz.prog SFb [] noHooks 900 102 [0, 1, 2, 3, 4, 10, 12, 13, 14, 15, 16] [] [1, 3, 4, 10, 12, 13] [] (oneLoop (codeOf Tryz.f188) 11) 16 (fbV x 0) (fH []) K := hi
    clear hi
    have hs := stk (ds := bT dgB (u : Int) :: [d0, d1, d2, d3, d4, d5, d6, d7, d8, d9, d10]) hl
    have hd := inDx hu
    clear hu
    refine FnOK.ttree SFb_ok mixed Tryz.func188 someFB (loops_one oneFB (hook_ok (G := []) (L := noHooks) (f := 900) (sameX := []) SFb_ok mixed (by decide) (loops_none _ _ _ _) ?_)) (ff11 (x : Int) (u : Int) d0 d1 d2 d3 d4 d5 d6 d7 d8 d9 d10 (fun vals h => vals = fbV x 0 ∧ h = fH []) (fun v => v = .tuple ⟨[.slice none 0 0, strV l]⟩)) ?_
    · rintro vals h K ⟨⟨rfl, rfl⟩, hK⟩
      exact ⟨_, hk K hK⟩
    · exact ⟨⟨rfl, rfl⟩, cnd hd hs⟩
  | [d0, d1, d2, d3, d4, d5, d6, d7, d8, d9, d10, d11], _, hi, l, hl => by
    have hk : ∀ K : AExit → List Value → AH → Prop, K (.exit 0) (fbX u 12) (fH [d0, d1, d2, d3, d4, d5, d6, d7, d8, d9, d10, d11]) → iter 0 Tryz.prog SFb [] noHooks 900 102 [0, 1, 2, 3, 4, 10, 12, 13, 14, 15, 16] [] [1, 3, 4, 10, 12, 13] [] (oneLoop (codeOf Tryz.f188) 11) 16 (fbV x 0) (fH []) K := hi
    clear hi
    have hs := stk (ds := bT dgB (u : Int) :: [d0, d1, d2, d3, d4, d5, d6, d7, d8, d9, d10, d11]) hl
    have hd := inDx hu
    clear hu
    refine FnOK.ttree SFb_ok mixed Tryz.func188 someFB (loops_one oneFB (hook_ok (G := []) (L := noHooks) (f := 900) (sameX := []) SFb_ok mixed (by decide) (loops_none _ _ _ _) ?_)) (ff12 (x : Int) (u : Int) d0 d1 d2 d3 d4 d5 d6 d7 d8 d9 d10 d11 (fun vals h => vals = fbV x 0 ∧ h = fH []) (fun v => v = .tuple ⟨[.slice none 0 0, strV l]⟩)) ?_
    · rintro vals h K ⟨⟨rfl, rfl⟩, hK⟩
      exact ⟨_, hk K hK⟩
    · exact ⟨⟨rfl, rfl⟩, cnd hd hs⟩
  | [d0, d1, d2, d3, d4, d5, d6, d7, d8, d9, d10, d11, d12], _, hi, l, hl => by
    have hk : ∀ K : AExit → List Value → AH → Prop, K (.exit 0) (fbX u 13) (fH [d0, d1, d2, d3, d4, d5, d6, d7, d8, d9, d10, d11, d12]) → iter 0 Tryz.prog SFb [] noHooks 900 102 [0, 1, 2, 3, 4, 10, 12, 13, 14, 15, 16] [] [1, 3, 4, 10, 12, 13] [] (oneLoop (codeOf Tryz.f188) 11) 16 (fbV x 0) (fH []) K := hi
    clear hi
    have hs := stk (ds := bT dgB (u : Int) :: [d0, d1, d2, d3, d4, d5, d6, d7, d8, d9, d10, d11, d12]) hl
    have hd := inDx hu
    clear hu
    refine FnOK.ttree SFb_ok mixed Tryz.func188 someFB (loops_one oneFB (hook_ok (G := []) (L := noHooks) (f := 900) (sameX := []) SFb_ok mixed (by decide) (loops_none _ _ _ _) ?_)) (ff13 (x : Int) (u : Int) d0 d1 d2 d3 d4 d5 d6 d7 d8 d9 d10 d11 d12 (fun vals h => vals = fbV x 0 ∧ h = fH []) (fun v => v = .tuple ⟨[.slice none 0 0, strV l]⟩)) ?_
    · rintro vals h K ⟨⟨rfl, rfl⟩, hK⟩
      exact ⟨_, hk K hK⟩
    · exact ⟨⟨rfl, rfl⟩, cnd hd hs⟩
  | [d0, d1, d2, d3, d4, d5, d6, d7, d8, d9, d10, d11, d12, d13], _, hi, l, hl => by
    have hk : ∀ K : AExit → List Value → AH → Prop, K (.exit 0) (fbX u 14) (fH [d0, d1, d2, d3, d4, d5, d6, d7, d8, d9, d10, d11, d12, d13]) → iter 0 Tryz.prog SFb [] noHooks 900 102 [0, 1, 2, 3, 4, 10, 12, 13, 14, 15, 16] [] [1, 3, 4, 10, 12, 13] [] (oneLoop (codeOf Tryz.f188) 11) 16 (fbV x 0) (fH []) K := hi
    clear hi
    have hs := stk (ds := bT dgB (u : Int) :: [d0, d1, d2, d3, d4, d5, d6, d7, d8, d9, d10, d11, d12, d13]) hl
    have hd := inDx hu
    clear hu
    refine FnOK.ttree SFb_ok mixed Tryz.func188 someFB (loops_one oneFB (hook_ok (G := []) (L := noHooks) (f := 900) (sameX := []) SFb_ok mixed (by decide) (loops_none _ _ _ _) ?_)) (ff14 (x : Int) (u : Int) d0 d1 d2 d3 d4 d5 d6 d7 d8 d9 d10 d11 d12 d13 (fun vals h => vals = fbV x 0 ∧ h = fH []) (fun v => v = .tuple ⟨[.slice none 0 0, strV l]⟩)) ?_
    · rintro vals h K ⟨⟨rfl, rfl⟩, hK⟩
      exact ⟨_, hk K hK⟩
    · exact ⟨⟨rfl, rfl⟩, cnd hd hs⟩
  | [d0, d1, d2, d3, d4, d5, d6, d7, d8, d9, d10, d11, d12, d13, d14], _, hi, l, hl => by
    have hk : ∀ K : AExit → List Value → AH → Prop, K (.exit 0) (fbX u 15) (fH [d0, d1, d2, d3, d4, d5, d6, d7, d8, d9, d10, d11, d12, d13, d14]) → iter 0 Tryz.prog SFb [] noHooks 900 102 [0, 1, 2, 3, 4, 10, 12, 13, 14, 15, 16] [] [1, 3, 4, 10, 12, 13] [] (oneLoop (codeOf Tryz.f188) 11) 16 (fbV x 0) (fH []) K := hi
    clear hi
    have hs := stk (ds := bT dgB (u : Int) :: [d0, d1, d2, d3, d4, d5, d6, d7, d8, d9, d10, d11, d12, d13, d14]) hl
    have hd := inDx hu
    clear hu
    refine FnOK.ttree SFb_ok mixed Tryz.func188 someFB (loops_one oneFB (hook_ok (G := []) (L := noHooks) (f := 900) (sameX := []) SFb_ok mixed (by decide) (loops_none _ _ _ _) ?_)) (ff15 (x : Int) (u : Int) d0 d1 d2 d3 d4 d5 d6 d7 d8 d9 d10 d11 d12 d13 d14 (fun vals h => vals = fbV x 0 ∧ h = fH []) (fun v => v = .tuple ⟨[.slice none 0 0, strV l]⟩)) ?_
    · rintro vals h K ⟨⟨rfl, rfl⟩, hK⟩
      exact ⟨_, hk K hK⟩
    · exact ⟨⟨rfl, rfl⟩, cnd hd hs⟩
  | _ :: _ :: _ :: _ :: _ :: _ :: _ :: _ :: _ :: _ :: _ :: _ :: _ :: _ :: _ :: _ :: _, h, _, _, _ => absurd h (by simp)
theorem fb_fn {x : Nat} (hx : x < 18446744073709551616) : ∃ l : Bs, (46 : UInt8) ∉ l ∧ 1 ≤ l.length ∧ l.length ≤ 16 ∧
    FnOK 0 Tryz.prog 188 ⟨[.slice none 0 0, .int .u64 (x : Int), .int .i64 16, .bool false, .bool false]⟩ h0 (fun v _ => v = .tuple ⟨[.slice none 0 0, strV l]⟩) := by
  obtain ⟨u', ds', g1, g2, g3, g4⟩ := fb_loop 15 x [] rfl hx
  have hd := g3 (fun d hd => by cases hd)
  obtain ⟨l, h1, h2, h3⟩ := u8I_of (ds := bT dgB (u' : Int) :: ds') fun d hm => by
    rcases List.mem_cons.1 hm with rfl | hm
    · exact dg_ok _ (by omega)
    · exact hd d hm
  rw [List.length_cons] at h3
  refine ⟨l, h2, by omega, by omega, ?_⟩
  exact fb_at g1 ds' g2 g4 l h1
noncomputable def SFu (x : Int) (s : ByteArray) : SC := ⟨idn, spT 188 [.slice none 0 0, .int .u64 x, .int .i64 16, .bool false, .bool false] (.tuple ⟨[.slice none 0 0, .string s]⟩), true, true⟩
theorem fue (x : Int) (s : ByteArray) (Q : Value → Prop) : ffn Tryz.prog (SFu x s) [] 900 [] Tryz.f105 [.int .u64 x, .int .i64 16] h0 (fun v _ => Q v) =
    tqT [.slice none 0 0, .int .u64 x, .int .i64 16, .bool false, .bool false] (Q (.string s)) := by kernel_rfl
theorem someFU : Tryz.f105.body.isSome = true := by kernel_rfl
theorem fu_fn {x : Nat} (hx : x < 18446744073709551616) : ∃ l : Bs, (46 : UInt8) ∉ l ∧ 1 ≤ l.length ∧ l.length ≤ 16 ∧ FnOK 0 Tryz.prog 105 ⟨[.int .u64 (x : Int), .int .i64 16]⟩ h0 (fun v _ => v = strV l) := by
  obtain ⟨l, h1, h2, h3, h4⟩ := fb_fn hx
  exact ⟨l, h1, h2, h3, FnOK.ftree (spT_ok (xs := [.slice none 0 0, .int .u64 (x : Int), .int .i64 16, .bool false, .bool false]) h4 rfl rfl).cfg mixed Tryz.func105 someFU (fue (x : Int) (bl l) (fun v => v = strV l)) (tqT_mk rfl)⟩
end Go.Proofs.YtklednomnpghcaaGreatDoor
