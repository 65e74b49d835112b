/-
  Values as they are drawn: RightValue: its head and rounds.
-/
import Derived.Test.YtmclppkligkooaaGreatDoorVaC
/-
  Values: plain laws: values as they are drawn: words and names out of lists.
-/
namespace ValLaw
def wordsU : List W := [[], [97], [98], [97, 32, 98], [120, 34, 121, 92, 122], [195, 169, 10, 9], [1, 127], [49, 50], [45, 51], [65, 98, 44, 99, 68]]
def names6 : List W := [[], [97], [98], [99, 32, 100], [110], [115]]
def namesU : List W := [[], [97], [98], [99, 32, 100], [110], [115], [122]]
/-- What a drawn value owes, but for its parts. -/
def okD (b : Base) : Prop := okB b ∧ b.2.2.2 ∈ wordsU ∧ -1000000000000000 ≤ b.2.2.1 ∧ b.2.2.1 ≤ 1000000000000000
def GP (m : Nat) (U : List W) : (n : Nat) → T n → Prop
  | 0, b => okD b
  | n + 1, v => okD v.1 ∧ (v.1.1 = 4 ∨ v.2.1 = []) ∧ (v.1.1 = 5 ∨ v.2.2 = []) ∧ (∀ x ∈ v.2.1, GP m U n x) ∧ (∀ p ∈ v.2.2, GP m U n p.2) ∧ v.2.1.length ≤ m ∧ (v.2.2.map (·.1)).Sublist U
abbrev GV := GP 7 namesU
abbrev GR := GP 3 names6
theorem gr_gv : ∀ {n : Nat} {v : T n}, GR n v → GV n v
  | 0, _, h => h
  | _ + 1, _, ⟨h1, h2, h3, h4, h5, h6, h7⟩ => ⟨h1, h2, h3, fun x hx => gr_gv (h4 x hx), fun p hp => gr_gv (h5 p hp), Nat.le_trans h6 (by decide), h7.trans (by decide)⟩
theorem gv_wf : ∀ {n : Nat} {v : T n}, GV n v → WF n v
  | 0, _, h => h.1
  | _ + 1, _, ⟨h1, h2, h3, h4, h5, _, _⟩ => ⟨h1.1, h2, h3, fun x hx => gv_wf (h4 x hx), fun p hp => gv_wf (h5 p hp)⟩
theorem words_sh : ∀ w ∈ wordsU, (escs w).length ≤ 15 := by decide +kernel
theorem names_sh : ∀ w ∈ namesU, (escs w).length ≤ 3 := by decide +kernel
theorem gv_sh : ∀ {n : Nat} {v : T n}, GV n v → sh n v
  | 0, _, h => ⟨words_sh _ h.2.1, h.2.2⟩
  | _ + 1, _, ⟨h1, _, _, h4, h5, _, h7⟩ => ⟨⟨words_sh _ h1.2.1, h1.2.2⟩, fun x hx => gv_sh (h4 x hx), fun p hp => ⟨names_sh _ (h7.subset (List.mem_map.2 ⟨p, hp, rfl⟩)), gv_sh (h5 p hp)⟩⟩
def bnd : Nat → Nat
  | 0 => 1
  | n + 1 => 1 + bnd n * 7
theorem gv_sz : ∀ {n : Nat} {v : T n}, GV n v → sz n v ≤ bnd n
  | 0, _, _ => Nat.le_refl _
  | n + 1, v, ⟨_, h2, h3, h4, h5, h6, h7⟩ => by
    have l7 : v.2.2.length ≤ 7 := by have := h7.length_le; simpa [namesU] using this
    have k1 := sumL_le (l := v.2.1) (f := sz n) (k := bnd n) fun x hx => gv_sz (h4 x hx)
    have k2 := sumL_le (l := v.2.2) (f := fun p : W × T n => sz n p.2) (k := bnd n) fun p hp => gv_sz (h5 p hp)
    have m1 := Nat.mul_le_mul_left (bnd n) h6
    have m2 := Nat.mul_le_mul_left (bnd n) l7
    show 1 + sumL (sz n) v.2.1 + sumL (fun p : W × T n => sz n p.2) v.2.2 ≤ 1 + bnd n * 7
    rcases h2 with h2 | h2
    · have h3 := h3.resolve_left (by omega)
      rw [h3] at k2 ⊢
      show 1 + sumL (sz n) v.2.1 + 0 ≤ _
      omega
    · rw [h2]
      show 1 + 0 + _ ≤ _
      omega
/-- One level more, of nothing. -/
def up : (n : Nat) → T n → T (n + 1)
  | 0, b => (b, [], [])
  | n + 1, v => (v.1, v.2.1.map (up n), v.2.2.map fun p => (p.1, up n p.2))
theorem gv_up : ∀ {n : Nat} {v : T n}, GV n v → GV (n + 1) (up n v)
  | 0, _, h => ⟨h, .inr rfl, .inr rfl, fun x hx => (by cases hx), fun x hx => (by cases hx), Nat.zero_le _, List.nil_sublist _⟩
  | n + 1, v, ⟨h1, h2, h3, h4, h5, h6, h7⟩ => by
    refine ⟨h1, h2.imp_right fun q => ?_, h3.imp_right fun q => ?_, fun x hx => ?_, fun p hp => ?_, ?_, ?_⟩
    · show v.2.1.map _ = []; rw [q]; rfl
    · show v.2.2.map _ = []; rw [q]; rfl
    · obtain ⟨y, hy, rfl⟩ := List.mem_map.1 hx; exact gv_up (h4 y hy)
    · obtain ⟨y, hy, rfl⟩ := List.mem_map.1 hp; exact gv_up (h5 y hy)
    · show (v.2.1.map _).length ≤ 7; rw [List.length_map]; exact h6
    · show ((v.2.2.map _).map _).Sublist _
      rw [List.map_map]; exact h7
end ValLaw

namespace Go.Proofs.YtmclppkligkooaaGreatDoor
open Go.Ev Go.RowKit

/-- A value that is drawn, told beforehand. -/
noncomputable def spRv (ok : Bool) (X : Array Value) (e e' D : Int) (x : Value) (f : FuncId) (args : Array Value) (h : AH) : Option (Bool × Value × AH) :=
  cond (Nat.beq f 4) (match args with
    | ⟨[.pointer (some ⟨b, 0, none⟩), .int .i64 d]⟩ => match h.get b with
      | some (.cells ⟨[.func (.yield 0) xs ⟨[]⟩, .int .i64 at_]⟩ t (0, 0)) => some (ok && Nat.beq t 25 && eqV (fz xs) (fz X) && decide (at_ = e) && decide (d = D) && Nat.blt b h.next, x, h.set b (.cells ⟨[fz X, .int .i64 e']⟩ 25 (0, 0)))
      | _ => none
    | _ => none) none
noncomputable def rvC (ok : Bool) (X : Array Value) (a e D D1 : Int) : Bool := ok && true && eqV (fz X) (fz X) && decide (a = e) && decide (IntKind.i64.wrap (D - 1) = D1) && true
noncomputable def SRn (ok : Bool) (X : Array Value) (e e' D : Int) (x : Value) : SC := ⟨idn, spOr (spRv ok X e e' D x) (spNext []), true, true⟩
noncomputable def SI1 : SC := ⟨idn, spNext [], true, true⟩
def vW (k : Int) (f : Bool) (n : Int) (s : ByteArray) (l m : Value) : List Value := [.int .i64 k, .bool f, .int .i64 n, .string s, l, m]
def nlV : Value := .slice none 0 0
def p2V : Value := .pointer (some ⟨2, 0, none⟩)
def z6 : List Value := [.int .i64 0, .bool false, .int .i64 0, .string ⟨#[]⟩, nlV, nlV]
def nm6 : Obj := .cells ⟨[.string ⟨#[]⟩, .string ⟨#[97]⟩, .string ⟨#[98]⟩, .string ⟨#[99, 32, 100]⟩, .string ⟨#[110]⟩, .string ⟨#[115]⟩]⟩ 9 (0, 0)
def vwO (k : Int) (l m : Value) : Obj := .cells ⟨vW k false 0 ⟨#[]⟩ l m⟩ 29 (0, 0)
def zO : Obj := .cells ⟨z6⟩ 29 (0, 0)
def hFl (nx lw : Nat) (X : Array Value) (e k : Int) (xs : List Value) : AH := ⟨nx, lw, [(0, strm X e), (1, zO), (2, vwO k (fz ⟨xs⟩) nlV)]⟩
def hFm (nx lw : Nat) (X : Array Value) (e k : Int) (xs : List Value) : AH := ⟨nx, lw, [(0, strm X e), (1, zO), (2, vwO k nlV (fz ⟨xs⟩))]⟩
def hL0 (X : Array Value) (e k : Int) : AH := ⟨3, 3, [(0, strm X e), (1, zO), (2, vwO k nlV nlV)]⟩
def hL1 (X : Array Value) (e k : Int) (cs : List Value) (j : Nat) : AH := ⟨4, 4, [(0, strm X e), (1, zO), (2, vwO k (.slice (some ⟨3, 0, none⟩) j j) nlV), (3, .cells ⟨cs⟩ 29 (0, 0))]⟩
def hM0 (X : Array Value) (e k : Int) : AH := ⟨4, 4, [(0, strm X e), (1, zO), (2, vwO k nlV nlV), (3, nm6)]⟩
def hM1 (X : Array Value) (e k : Int) (cs : List Value) (j : Nat) : AH := ⟨5, 5, [(0, strm X e), (1, zO), (2, vwO k nlV (.slice (some ⟨4, 0, none⟩) j j)), (3, nm6), (4, .cells ⟨cs⟩ 53 (0, 0))]⟩
def hX1 (X : Array Value) (e k : Int) (cs : List Value) (j : Nat) : AH := ⟨4, 4, [(0, strm X e), (1, zO), (2, vwO k nlV (.slice (some ⟨3, 0, none⟩) j j)), (3, .cells ⟨cs⟩ 53 (0, 0))]⟩
def vL (D n i : Int) : List Value := [p0V, .int .i64 D, p1V, p2V, .int .i64 n, .int .i64 i]
def vM (D i : Int) : List Value := [p0V, .int .i64 D, p1V, p2V, .slice (some ⟨3, 0, none⟩) 6 6, .int .i64 6, .int .i64 i]
noncomputable def drT (X : Array Value) (e : Int) (Y : Prop) : Prop := bif decide (0 ≤ e) && decide (e ≤ 1000000) && true && true && true && allInts X then Y else False
noncomputable def rg (r m : Int) (k : Nat) (Y : Prop) : Prop := bif decide (0 ≤ r) && decide (r < m) then bif (0 + r.toNat * 1).blt k then Y else False else False
theorem lr0 (ok : Bool) (X : Array Value) (n i e e1 D1 D : Int) (k k2 : Int) (f : Bool) (n2 : Int) (s : ByteArray) (lx ly : List Value) (B : List Value → AH → Prop) (Q : AExit → List Value → AH → Prop) :
    once 1 Tryz.prog (SRn ok X e e1 D1 (vV k2 f n2 s lx ly)) [] noHooks 900 88 [0, 1, 4, 5, 46, 47] [3] [4, 5] [3] (oneLoop (codeOf Tryz.f4) 13) (vL D n i) (hL0 X e k) B Q =
      bif decide (i < n) then bif decide (D > 0) then bif rvC ok X e e D D1 then NoNames (.cells ⟨[.int .i64 k2, .bool f, .int .i64 n2, .string s, fz ⟨lx⟩, fz ⟨ly⟩]⟩ 29 (0, 0)) ∧ B (vL D n (IntKind.i64.wrap (i + 1))) (hL1 X e1 k [.int .i64 k2, .bool f, .int .i64 n2, .string s, fz ⟨lx⟩, fz ⟨ly⟩] 1) else False else B (vL D n (IntKind.i64.wrap (i + 1))) (hL0 X e k) else Q (.exit 1) [p1V, p2V] (hL0 X e k) := by kernel_rfl
theorem lr1 (ok : Bool) (X : Array Value) (n i e e1 D1 D : Int) (k k2 : Int) (f : Bool) (n2 : Int) (s : ByteArray) (lx ly cs : List Value) (j : Nat) (B : List Value → AH → Prop) (Q : AExit → List Value → AH → Prop) :
    once 1 Tryz.prog (SRn ok X e e1 D1 (vV k2 f n2 s lx ly)) [] noHooks 900 88 [0, 1, 4, 5, 46, 47] [3] [4, 5] [3] (oneLoop (codeOf Tryz.f4) 13) (vL D n i) (hL1 X e k cs j) B Q =
      bif decide (i < n) then bif decide (D > 0) then bif rvC ok X e e D D1 then bif (j + 1).ble j then False else bif (j + 1).ble 9223372036854775807 && ((j + 1) * 88).ble 140737488355328 then bif (0 + j * 6).ble (Array.mk cs).size && true && true then NoNames (.cells ⟨List.take (j * 6) (List.drop 0 (Array.mk cs).toList) ++ [.int .i64 k2, .bool f, .int .i64 n2, .string s, fz ⟨lx⟩, fz ⟨ly⟩]⟩ 29 (0, 0)) ∧ B (vL D n (IntKind.i64.wrap (i + 1))) (hL1 X e1 k (List.take (j * 6) (List.drop 0 (Array.mk cs).toList) ++ [.int .i64 k2, .bool f, .int .i64 n2, .string s, fz ⟨lx⟩, fz ⟨ly⟩]) (j + 1)) else False else False else False else NoNames (.cells ⟨cs⟩ 29 (0, 0)) ∧ B (vL D n (IntKind.i64.wrap (i + 1))) (hL1 X e k cs j) else NoNames (.cells ⟨cs⟩ 29 (0, 0)) ∧ Q (.exit 1) [p1V, p2V] (hL1 X e k cs j) := by kernel_rfl
theorem mrN0 (ok : Bool) (X : Array Value) (e0 e e1 D1 D : Int) (k k2 : Int) (f : Bool) (n2 : Int) (s : ByteArray) (lx ly : List Value) (B : List Value → AH → Prop) (Q : AExit → List Value → AH → Prop) :
    once 1 Tryz.prog (SRn ok X e e1 D1 (vV k2 f n2 s lx ly)) [] noHooks 900 88 [0, 1, 4, 5, 63, 64, 65] [4] [4, 5] [3] (oneLoop (codeOf Tryz.f4) 19) (vM D 0) (hM0 X e0 k) B Q =
      bif decide (D > 0) then drT X e0 (bif nextR X e0 3 == 0 then bif rvC ok X (e0 + 1) e D D1 then NoNames (.cells ⟨(.string ⟨#[]⟩ :: [.int .i64 k2, .bool f, .int .i64 n2, .string s, fz ⟨lx⟩, fz ⟨ly⟩])⟩ 53 (0, 0)) ∧ B (vM D 1) (hM1 X e1 k (.string ⟨#[]⟩ :: [.int .i64 k2, .bool f, .int .i64 n2, .string s, fz ⟨lx⟩, fz ⟨ly⟩]) 1) else False else B (vM D 1) (hM0 X (e0 + 1) k)) else B (vM D 1) (hM0 X e0 k) := by kernel_rfl
theorem mrN1 (ok : Bool) (X : Array Value) (e0 e e1 D1 D : Int) (k k2 : Int) (f : Bool) (n2 : Int) (s : ByteArray) (lx ly : List Value) (B : List Value → AH → Prop) (Q : AExit → List Value → AH → Prop) :
    once 1 Tryz.prog (SRn ok X e e1 D1 (vV k2 f n2 s lx ly)) [] noHooks 900 88 [0, 1, 4, 5, 63, 64, 65] [4] [4, 5] [3] (oneLoop (codeOf Tryz.f4) 19) (vM D 1) (hM0 X e0 k) B Q =
      bif decide (D > 0) then drT X e0 (bif nextR X e0 3 == 0 then bif rvC ok X (e0 + 1) e D D1 then NoNames (.cells ⟨(.string ⟨#[97]⟩ :: [.int .i64 k2, .bool f, .int .i64 n2, .string s, fz ⟨lx⟩, fz ⟨ly⟩])⟩ 53 (0, 0)) ∧ B (vM D 2) (hM1 X e1 k (.string ⟨#[97]⟩ :: [.int .i64 k2, .bool f, .int .i64 n2, .string s, fz ⟨lx⟩, fz ⟨ly⟩]) 1) else False else B (vM D 2) (hM0 X (e0 + 1) k)) else B (vM D 2) (hM0 X e0 k) := by kernel_rfl
theorem mrN2 (ok : Bool) (X : Array Value) (e0 e e1 D1 D : Int) (k k2 : Int) (f : Bool) (n2 : Int) (s : ByteArray) (lx ly : List Value) (B : List Value → AH → Prop) (Q : AExit → List Value → AH → Prop) :
    once 1 Tryz.prog (SRn ok X e e1 D1 (vV k2 f n2 s lx ly)) [] noHooks 900 88 [0, 1, 4, 5, 63, 64, 65] [4] [4, 5] [3] (oneLoop (codeOf Tryz.f4) 19) (vM D 2) (hM0 X e0 k) B Q =
      bif decide (D > 0) then drT X e0 (bif nextR X e0 3 == 0 then bif rvC ok X (e0 + 1) e D D1 then NoNames (.cells ⟨(.string ⟨#[98]⟩ :: [.int .i64 k2, .bool f, .int .i64 n2, .string s, fz ⟨lx⟩, fz ⟨ly⟩])⟩ 53 (0, 0)) ∧ B (vM D 3) (hM1 X e1 k (.string ⟨#[98]⟩ :: [.int .i64 k2, .bool f, .int .i64 n2, .string s, fz ⟨lx⟩, fz ⟨ly⟩]) 1) else False else B (vM D 3) (hM0 X (e0 + 1) k)) else B (vM D 3) (hM0 X e0 k) := by kernel_rfl
theorem mrN3 (ok : Bool) (X : Array Value) (e0 e e1 D1 D : Int) (k k2 : Int) (f : Bool) (n2 : Int) (s : ByteArray) (lx ly : List Value) (B : List Value → AH → Prop) (Q : AExit → List Value → AH → Prop) :
    once 1 Tryz.prog (SRn ok X e e1 D1 (vV k2 f n2 s lx ly)) [] noHooks 900 88 [0, 1, 4, 5, 63, 64, 65] [4] [4, 5] [3] (oneLoop (codeOf Tryz.f4) 19) (vM D 3) (hM0 X e0 k) B Q =
      bif decide (D > 0) then drT X e0 (bif nextR X e0 3 == 0 then bif rvC ok X (e0 + 1) e D D1 then NoNames (.cells ⟨(.string ⟨#[99, 32, 100]⟩ :: [.int .i64 k2, .bool f, .int .i64 n2, .string s, fz ⟨lx⟩, fz ⟨ly⟩])⟩ 53 (0, 0)) ∧ B (vM D 4) (hM1 X e1 k (.string ⟨#[99, 32, 100]⟩ :: [.int .i64 k2, .bool f, .int .i64 n2, .string s, fz ⟨lx⟩, fz ⟨ly⟩]) 1) else False else B (vM D 4) (hM0 X (e0 + 1) k)) else B (vM D 4) (hM0 X e0 k) := by kernel_rfl
theorem mrN4 (ok : Bool) (X : Array Value) (e0 e e1 D1 D : Int) (k k2 : Int) (f : Bool) (n2 : Int) (s : ByteArray) (lx ly : List Value) (B : List Value → AH → Prop) (Q : AExit → List Value → AH → Prop) :
    once 1 Tryz.prog (SRn ok X e e1 D1 (vV k2 f n2 s lx ly)) [] noHooks 900 88 [0, 1, 4, 5, 63, 64, 65] [4] [4, 5] [3] (oneLoop (codeOf Tryz.f4) 19) (vM D 4) (hM0 X e0 k) B Q =
      bif decide (D > 0) then drT X e0 (bif nextR X e0 3 == 0 then bif rvC ok X (e0 + 1) e D D1 then NoNames (.cells ⟨(.string ⟨#[110]⟩ :: [.int .i64 k2, .bool f, .int .i64 n2, .string s, fz ⟨lx⟩, fz ⟨ly⟩])⟩ 53 (0, 0)) ∧ B (vM D 5) (hM1 X e1 k (.string ⟨#[110]⟩ :: [.int .i64 k2, .bool f, .int .i64 n2, .string s, fz ⟨lx⟩, fz ⟨ly⟩]) 1) else False else B (vM D 5) (hM0 X (e0 + 1) k)) else B (vM D 5) (hM0 X e0 k) := by kernel_rfl
theorem mrN5 (ok : Bool) (X : Array Value) (e0 e e1 D1 D : Int) (k k2 : Int) (f : Bool) (n2 : Int) (s : ByteArray) (lx ly : List Value) (B : List Value → AH → Prop) (Q : AExit → List Value → AH → Prop) :
    once 1 Tryz.prog (SRn ok X e e1 D1 (vV k2 f n2 s lx ly)) [] noHooks 900 88 [0, 1, 4, 5, 63, 64, 65] [4] [4, 5] [3] (oneLoop (codeOf Tryz.f4) 19) (vM D 5) (hM0 X e0 k) B Q =
      bif decide (D > 0) then drT X e0 (bif nextR X e0 3 == 0 then bif rvC ok X (e0 + 1) e D D1 then NoNames (.cells ⟨(.string ⟨#[115]⟩ :: [.int .i64 k2, .bool f, .int .i64 n2, .string s, fz ⟨lx⟩, fz ⟨ly⟩])⟩ 53 (0, 0)) ∧ B (vM D 6) (hM1 X e1 k (.string ⟨#[115]⟩ :: [.int .i64 k2, .bool f, .int .i64 n2, .string s, fz ⟨lx⟩, fz ⟨ly⟩]) 1) else False else B (vM D 6) (hM0 X (e0 + 1) k)) else B (vM D 6) (hM0 X e0 k) := by kernel_rfl
theorem mrB1 (ok : Bool) (X : Array Value) (e0 e e1 D1 D : Int) (k k2 : Int) (f : Bool) (n2 : Int) (s : ByteArray) (lx ly cs : List Value) (j : Nat) (B : List Value → AH → Prop) (Q : AExit → List Value → AH → Prop) :
    once 1 Tryz.prog (SRn ok X e e1 D1 (vV k2 f n2 s lx ly)) [] noHooks 900 88 [0, 1, 4, 5, 63, 64, 65] [4] [4, 5] [3] (oneLoop (codeOf Tryz.f4) 19) (vM D 1) (hM1 X e0 k cs j) B Q =
      bif decide (D > 0) then drT X e0 (bif nextR X e0 3 == 0 then bif rvC ok X (e0 + 1) e D D1 then bif (j + 1).ble j then False else bif (j + 1).ble 9223372036854775807 && ((j + 1) * 104).ble 140737488355328 then bif (0 + j * 7).ble (Array.mk cs).size && true && true then NoNames (.cells ⟨List.take (j * 7) (List.drop 0 (Array.mk cs).toList) ++ (.string ⟨#[97]⟩ :: [.int .i64 k2, .bool f, .int .i64 n2, .string s, fz ⟨lx⟩, fz ⟨ly⟩])⟩ 53 (0, 0)) ∧ B (vM D 2) (hM1 X e1 k (List.take (j * 7) (List.drop 0 (Array.mk cs).toList) ++ (.string ⟨#[97]⟩ :: [.int .i64 k2, .bool f, .int .i64 n2, .string s, fz ⟨lx⟩, fz ⟨ly⟩])) (j + 1)) else False else False else False else NoNames (.cells ⟨cs⟩ 53 (0, 0)) ∧ B (vM D 2) (hM1 X (e0 + 1) k cs j)) else NoNames (.cells ⟨cs⟩ 53 (0, 0)) ∧ B (vM D 2) (hM1 X e0 k cs j) := by kernel_rfl
theorem mrB2 (ok : Bool) (X : Array Value) (e0 e e1 D1 D : Int) (k k2 : Int) (f : Bool) (n2 : Int) (s : ByteArray) (lx ly cs : List Value) (j : Nat) (B : List Value → AH → Prop) (Q : AExit → List Value → AH → Prop) :
    once 1 Tryz.prog (SRn ok X e e1 D1 (vV k2 f n2 s lx ly)) [] noHooks 900 88 [0, 1, 4, 5, 63, 64, 65] [4] [4, 5] [3] (oneLoop (codeOf Tryz.f4) 19) (vM D 2) (hM1 X e0 k cs j) B Q =
      bif decide (D > 0) then drT X e0 (bif nextR X e0 3 == 0 then bif rvC ok X (e0 + 1) e D D1 then bif (j + 1).ble j then False else bif (j + 1).ble 9223372036854775807 && ((j + 1) * 104).ble 140737488355328 then bif (0 + j * 7).ble (Array.mk cs).size && true && true then NoNames (.cells ⟨List.take (j * 7) (List.drop 0 (Array.mk cs).toList) ++ (.string ⟨#[98]⟩ :: [.int .i64 k2, .bool f, .int .i64 n2, .string s, fz ⟨lx⟩, fz ⟨ly⟩])⟩ 53 (0, 0)) ∧ B (vM D 3) (hM1 X e1 k (List.take (j * 7) (List.drop 0 (Array.mk cs).toList) ++ (.string ⟨#[98]⟩ :: [.int .i64 k2, .bool f, .int .i64 n2, .string s, fz ⟨lx⟩, fz ⟨ly⟩])) (j + 1)) else False else False else False else NoNames (.cells ⟨cs⟩ 53 (0, 0)) ∧ B (vM D 3) (hM1 X (e0 + 1) k cs j)) else NoNames (.cells ⟨cs⟩ 53 (0, 0)) ∧ B (vM D 3) (hM1 X e0 k cs j) := by kernel_rfl
theorem mrB3 (ok : Bool) (X : Array Value) (e0 e e1 D1 D : Int) (k k2 : Int) (f : Bool) (n2 : Int) (s : ByteArray) (lx ly cs : List Value) (j : Nat) (B : List Value → AH → Prop) (Q : AExit → List Value → AH → Prop) :
    once 1 Tryz.prog (SRn ok X e e1 D1 (vV k2 f n2 s lx ly)) [] noHooks 900 88 [0, 1, 4, 5, 63, 64, 65] [4] [4, 5] [3] (oneLoop (codeOf Tryz.f4) 19) (vM D 3) (hM1 X e0 k cs j) B Q =
      bif decide (D > 0) then drT X e0 (bif nextR X e0 3 == 0 then bif rvC ok X (e0 + 1) e D D1 then bif (j + 1).ble j then False else bif (j + 1).ble 9223372036854775807 && ((j + 1) * 104).ble 140737488355328 then bif (0 + j * 7).ble (Array.mk cs).size && true && true then NoNames (.cells ⟨List.take (j * 7) (List.drop 0 (Array.mk cs).toList) ++ (.string ⟨#[99, 32, 100]⟩ :: [.int .i64 k2, .bool f, .int .i64 n2, .string s, fz ⟨lx⟩, fz ⟨ly⟩])⟩ 53 (0, 0)) ∧ B (vM D 4) (hM1 X e1 k (List.take (j * 7) (List.drop 0 (Array.mk cs).toList) ++ (.string ⟨#[99, 32, 100]⟩ :: [.int .i64 k2, .bool f, .int .i64 n2, .string s, fz ⟨lx⟩, fz ⟨ly⟩])) (j + 1)) else False else False else False else NoNames (.cells ⟨cs⟩ 53 (0, 0)) ∧ B (vM D 4) (hM1 X (e0 + 1) k cs j)) else NoNames (.cells ⟨cs⟩ 53 (0, 0)) ∧ B (vM D 4) (hM1 X e0 k cs j) := by kernel_rfl
theorem mrB4 (ok : Bool) (X : Array Value) (e0 e e1 D1 D : Int) (k k2 : Int) (f : Bool) (n2 : Int) (s : ByteArray) (lx ly cs : List Value) (j : Nat) (B : List Value → AH → Prop) (Q : AExit → List Value → AH → Prop) :
    once 1 Tryz.prog (SRn ok X e e1 D1 (vV k2 f n2 s lx ly)) [] noHooks 900 88 [0, 1, 4, 5, 63, 64, 65] [4] [4, 5] [3] (oneLoop (codeOf Tryz.f4) 19) (vM D 4) (hM1 X e0 k cs j) B Q =
      bif decide (D > 0) then drT X e0 (bif nextR X e0 3 == 0 then bif rvC ok X (e0 + 1) e D D1 then bif (j + 1).ble j then False else bif (j + 1).ble 9223372036854775807 && ((j + 1) * 104).ble 140737488355328 then bif (0 + j * 7).ble (Array.mk cs).size && true && true then NoNames (.cells ⟨List.take (j * 7) (List.drop 0 (Array.mk cs).toList) ++ (.string ⟨#[110]⟩ :: [.int .i64 k2, .bool f, .int .i64 n2, .string s, fz ⟨lx⟩, fz ⟨ly⟩])⟩ 53 (0, 0)) ∧ B (vM D 5) (hM1 X e1 k (List.take (j * 7) (List.drop 0 (Array.mk cs).toList) ++ (.string ⟨#[110]⟩ :: [.int .i64 k2, .bool f, .int .i64 n2, .string s, fz ⟨lx⟩, fz ⟨ly⟩])) (j + 1)) else False else False else False else NoNames (.cells ⟨cs⟩ 53 (0, 0)) ∧ B (vM D 5) (hM1 X (e0 + 1) k cs j)) else NoNames (.cells ⟨cs⟩ 53 (0, 0)) ∧ B (vM D 5) (hM1 X e0 k cs j) := by kernel_rfl
theorem mrB5 (ok : Bool) (X : Array Value) (e0 e e1 D1 D : Int) (k k2 : Int) (f : Bool) (n2 : Int) (s : ByteArray) (lx ly cs : List Value) (j : Nat) (B : List Value → AH → Prop) (Q : AExit → List Value → AH → Prop) :
    once 1 Tryz.prog (SRn ok X e e1 D1 (vV k2 f n2 s lx ly)) [] noHooks 900 88 [0, 1, 4, 5, 63, 64, 65] [4] [4, 5] [3] (oneLoop (codeOf Tryz.f4) 19) (vM D 5) (hM1 X e0 k cs j) B Q =
      bif decide (D > 0) then drT X e0 (bif nextR X e0 3 == 0 then bif rvC ok X (e0 + 1) e D D1 then bif (j + 1).ble j then False else bif (j + 1).ble 9223372036854775807 && ((j + 1) * 104).ble 140737488355328 then bif (0 + j * 7).ble (Array.mk cs).size && true && true then NoNames (.cells ⟨List.take (j * 7) (List.drop 0 (Array.mk cs).toList) ++ (.string ⟨#[115]⟩ :: [.int .i64 k2, .bool f, .int .i64 n2, .string s, fz ⟨lx⟩, fz ⟨ly⟩])⟩ 53 (0, 0)) ∧ B (vM D 6) (hM1 X e1 k (List.take (j * 7) (List.drop 0 (Array.mk cs).toList) ++ (.string ⟨#[115]⟩ :: [.int .i64 k2, .bool f, .int .i64 n2, .string s, fz ⟨lx⟩, fz ⟨ly⟩])) (j + 1)) else False else False else False else NoNames (.cells ⟨cs⟩ 53 (0, 0)) ∧ B (vM D 6) (hM1 X (e0 + 1) k cs j)) else NoNames (.cells ⟨cs⟩ 53 (0, 0)) ∧ B (vM D 6) (hM1 X e0 k cs j) := by kernel_rfl
theorem mrN6 (ok : Bool) (X : Array Value) (e0 e e1 D1 D : Int) (k k2 : Int) (f : Bool) (n2 : Int) (s : ByteArray) (lx ly : List Value) (B : List Value → AH → Prop) (Q : AExit → List Value → AH → Prop) : once 1 Tryz.prog (SRn ok X e e1 D1 (vV k2 f n2 s lx ly)) [] noHooks 900 88 [0, 1, 4, 5, 63, 64, 65] [4] [4, 5] [3] (oneLoop (codeOf Tryz.f4) 19) (vM D 6) (hM0 X e0 k) B Q = Q (.exit 3) [p1V, p2V] (hL0 X e0 k) := by kernel_rfl
theorem mrB6 (ok : Bool) (X : Array Value) (e0 e e1 D1 D : Int) (k k2 : Int) (f : Bool) (n2 : Int) (s : ByteArray) (lx ly cs : List Value) (j : Nat) (B : List Value → AH → Prop) (Q : AExit → List Value → AH → Prop) : once 1 Tryz.prog (SRn ok X e e1 D1 (vV k2 f n2 s lx ly)) [] noHooks 900 88 [0, 1, 4, 5, 63, 64, 65] [4] [4, 5] [3] (oneLoop (codeOf Tryz.f4) 19) (vM D 6) (hM1 X e0 k cs j) B Q = (NoNames (.cells ⟨cs⟩ 53 (0, 0)) ∧ Q (.exit 3) [p1V, p2V] (hX1 X e0 k cs j)) := by kernel_rfl
/-! the head -/
def gI (l : List Value) (r : Int) : Int := toInt (l.getD (0 + r.toNat * 1) undef)
def gS (l : List Value) (r : Int) : ByteArray := toStr (l.getD (0 + r.toNat * 1) undef)
def k8L : List Value := [.int .i64 0, .int .i64 1, .int .i64 2, .int .i64 2, .int .i64 3, .int .i64 3, .int .i64 4, .int .i64 5]
def k3L : List Value := [.int .i64 4, .int .i64 5, .int .i64 5]
def nuL (r : Int) : List Value := [.int .i64 0, .int .i64 1, .int .i64 (-1), .int .i64 5, .int .i64 12, .int .i64 1000000000000000, .int .i64 (-1000000000000000), .int .i64 r]
def wdL : List Value := [.string ⟨#[]⟩, .string ⟨#[97]⟩, .string ⟨#[98]⟩, .string ⟨#[97, 32, 98]⟩, .string ⟨#[120, 34, 121, 92, 122]⟩, .string ⟨#[195, 169, 10, 9]⟩, .string ⟨#[1, 127]⟩, .string ⟨#[49, 50]⟩, .string ⟨#[45, 51]⟩, .string ⟨#[65, 98, 44, 99, 68]⟩]
noncomputable def rvK (X : Array Value) (D kk e2 e3 : Int) (xs ys : List Value) (C D' : List Value → AH → Prop) (Q : Value → Option Obj → Prop) (k e : Int) : Prop :=
  bif k == 1 then drT X e (Q (.agg ⟨vW k (nextR X e 2 == 0) 0 ⟨#[]⟩ nlV nlV⟩) (some (strm X (e + 1))))
  else bif k == 2 then drT X e (drT X (e + 1) (rg (nextR X (e + 1) 8) 8 8 (Q (.agg ⟨vW k false (gI (nuL (nextR X e 100)) (nextR X (e + 1) 8)) ⟨#[]⟩ nlV nlV⟩) (some (strm X (e + 1 + 1))))))
  else bif k == 3 then drT X e (rg (nextR X e 10) 10 10 (Q (.agg ⟨vW k false 0 (gS wdL (nextR X e 10)) nlV nlV⟩) (some (strm X (e + 1)))))
  else bif k == 4 then drT X e (C (vL D (nextR X e 4) 0) (hL0 X (e + 1) k) ∧ Q (.agg ⟨vW kk false 0 ⟨#[]⟩ (fz ⟨xs⟩) nlV⟩) (some (strm X e2)))
  else bif k == 5 then D' (vM D 0) (hM0 X e k) ∧ Q (.agg ⟨vW kk false 0 ⟨#[]⟩ nlV (fz ⟨ys⟩)⟩) (some (strm X e3))
  else Q (.agg ⟨vW k false 0 ⟨#[]⟩ nlV nlV⟩) (some (strm X e))
noncomputable def rvH (X : Array Value) (D e : Int) (K : Int → Int → Prop) : Prop :=
  drT X e (rg (nextR X e 8) 8 8 (bif decide (D > 0) then drT X (e + 1) (bif nextR X (e + 1) 2 == 0 then drT X (e + 1 + 1) (rg (nextR X (e + 1 + 1) 3) 3 3 (K (gI k3L (nextR X (e + 1 + 1) 3)) (e + 1 + 1 + 1))) else K (gI k8L (nextR X e 8)) (e + 1 + 1)) else K (gI k8L (nextR X e 8)) (e + 1)))
theorem rv0 (nx lw nx2 lw2 : Nat) (X : Array Value) (e e2 e3 kk D : Int) (xs ys : List Value) (C D' : List Value → AH → Prop) (Q : Value → Option Obj → Prop) :
    tfn Tryz.prog SI1 [] (hookOr (hook1 13 (hookLS 1 88 [0, 1, 4, 5, 46, 47] [3] [4, 5] (fun vals h K => C vals h ∧ K (.exit 1) [p1V, p2V] (hFl nx lw X e2 kk xs)))) (hook1 19 (hookLS 1 88 [0, 1, 4, 5, 63, 64, 65] [4] [4, 5] (fun vals h K => D' vals h ∧ K (.exit 3) [p1V, p2V] (hFm nx2 lw2 X e3 kk ys))))) 2000 [] Tryz.f4 [p0V, .int .i64 D] (Ev.h1 (strm X e)) (fun v h => Q v (h.get 0)) =
      rvH X D e (rvK X D kk e2 e3 xs ys C D' Q) := by kernel_rfl
end Go.Proofs.YtmclppkligkooaaGreatDoor
