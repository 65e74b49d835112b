/-
  Records as lines: keys; what is wrong with records.
-/
import Derived.Test.YtfhhhfgbedddhaaGreatDoorRcA
import Derived.Test.YtfhhhfgbedddhaaGreatDoorRcT
namespace Go.Proofs.YtfhhhfgbedddhaaGreatDoor
open Go.Ev Go.RowKit RecLaw

def okN (s : ByteArray) : Bool := decide (s.data.toList ∈ allN)
def ikB (s : ByteArray) : Bool := keyB s.data.toList
noncomputable def dsB (s : ByteArray) : ByteArray := bl (dashB s.data.toList)
theorem okN_bl {n : List UInt8} (h : n ∈ allN) : okN (bl n) = true := by unfold okN; rw [bl_list]; exact decide_eq_true h
theorem ikB_bl (n : List UInt8) : ikB (bl n) = keyB n := by unfold ikB; rw [bl_list]
theorem dsB_bl (n : List UInt8) : dsB (bl n) = bl (dashB n) := by unfold dsB; rw [bl_list]
theorem ik_all : ∀ n ∈ allN, FnOK 0 Tryz.prog 32 ⟨[.string (bl n)]⟩ h0 (fun v _ => v = .bool (keyB n)) := by
  intro n hn
  simp only [allN, List.mem_cons, List.not_mem_nil, or_false] at hn
  rcases hn with rfl | rfl | rfl | rfl | rfl | rfl | rfl | rfl | rfl | rfl
  · rw [show keyB [] = false from by kernel_rfl]; exact ik0F
  · rw [show keyB [114, 97] = true from by kernel_rfl]; exact ik1F
  · rw [show keyB [114, 98] = true from by kernel_rfl]; exact ik2F
  · rw [show keyB [122, 122] = true from by kernel_rfl]; exact ik3F
  · rw [show keyB [97, 112, 112, 49] = true from by kernel_rfl]; exact ik4F
  · rw [show keyB [97, 112, 112, 50] = true from by kernel_rfl]; exact ik5F
  · rw [show keyB [111, 110, 101] = true from by kernel_rfl]; exact ik6F
  · rw [show keyB [105, 97] = true from by kernel_rfl]; exact ik7F
  · rw [show keyB [65] = false from by kernel_rfl]; exact ik8F
  · rw [show keyB [45] = false from by kernel_rfl]; exact ik9F
theorem qk_all : ∀ n ∈ allN, FnOK 0 Tryz.prog 28 ⟨[.string (bl n)]⟩ h0 (fun v _ => v = .bool (keyB n)) := by
  intro n hn
  simp only [allN, List.mem_cons, List.not_mem_nil, or_false] at hn
  rcases hn with rfl | rfl | rfl | rfl | rfl | rfl | rfl | rfl | rfl | rfl
  · rw [show keyB [] = false from by kernel_rfl]; exact qk0F
  · rw [show keyB [114, 97] = true from by kernel_rfl]; exact qk1F
  · rw [show keyB [114, 98] = true from by kernel_rfl]; exact qk2F
  · rw [show keyB [122, 122] = true from by kernel_rfl]; exact qk3F
  · rw [show keyB [97, 112, 112, 49] = true from by kernel_rfl]; exact qk4F
  · rw [show keyB [97, 112, 112, 50] = true from by kernel_rfl]; exact qk5F
  · rw [show keyB [111, 110, 101] = true from by kernel_rfl]; exact qk6F
  · rw [show keyB [105, 97] = true from by kernel_rfl]; exact qk7F
  · rw [show keyB [65] = false from by kernel_rfl]; exact qk8F
  · rw [show keyB [45] = false from by kernel_rfl]; exact qk9F
theorem ds_all : ∀ n ∈ allN, FnOK 0 Tryz.prog 37 ⟨[.string (bl n)]⟩ h0 (fun v _ => v = .string (bl (dashB n))) := by
  intro n hn
  simp only [allN, List.mem_cons, List.not_mem_nil, or_false] at hn
  rcases hn with rfl | rfl | rfl | rfl | rfl | rfl | rfl | rfl | rfl | rfl
  · rw [show bl (dashB []) = ⟨#[45]⟩ from by kernel_rfl]; exact ds0F
  · rw [show bl (dashB [114, 97]) = ⟨#[114, 97]⟩ from by kernel_rfl]; exact ds1F
  · rw [show bl (dashB [114, 98]) = ⟨#[114, 98]⟩ from by kernel_rfl]; exact ds2F
  · rw [show bl (dashB [122, 122]) = ⟨#[122, 122]⟩ from by kernel_rfl]; exact ds3F
  · rw [show bl (dashB [97, 112, 112, 49]) = ⟨#[97, 112, 112, 49]⟩ from by kernel_rfl]; exact ds4F
  · rw [show bl (dashB [97, 112, 112, 50]) = ⟨#[97, 112, 112, 50]⟩ from by kernel_rfl]; exact ds5F
  · rw [show bl (dashB [111, 110, 101]) = ⟨#[111, 110, 101]⟩ from by kernel_rfl]; exact ds6F
  · rw [show bl (dashB [105, 97]) = ⟨#[105, 97]⟩ from by kernel_rfl]; exact ds7F
  · rw [show bl (dashB [65]) = ⟨#[45]⟩ from by kernel_rfl]; exact ds8F
  · rw [show bl (dashB [45]) = ⟨#[45]⟩ from by kernel_rfl]; exact ds9F
noncomputable def spIk (f : FuncId) (args : Array Value) (h : AH) : Option (Bool × Value × AH) :=
  cond (Nat.beq f 32) (match args with
    | ⟨[.string s]⟩ => some (okN s, .bool (ikB s), h)
    | _ => none) none
theorem spIk_ok : SpOK spIk := by
  intro f args h v h' hs
  unfold spIk at hs
  obtain ⟨hf, hs2⟩ := cond_some hs
  clear hs
  have := Nat.eq_of_beq_eq_true hf
  subst this
  split at hs2
  · injection hs2 with hs
    injection hs with hb hs
    injection hs with hv hh
    subst hv hh
    rename_i s
    have := ik_all _ (of_decide_eq_true hb)
    rw [bl_self] at this
    exact ⟨FnOK.pure this rfl rfl h, Nat.le_refl _⟩
  · cases hs2
noncomputable def spQk (f : FuncId) (args : Array Value) (h : AH) : Option (Bool × Value × AH) :=
  cond (Nat.beq f 28) (match args with
    | ⟨[.string s]⟩ => some (okN s, .bool (ikB s), h)
    | _ => none) none
theorem spQk_ok : SpOK spQk := by
  intro f args h v h' hs
  unfold spQk at hs
  obtain ⟨hf, hs2⟩ := cond_some hs
  clear hs
  have := Nat.eq_of_beq_eq_true hf
  subst this
  split at hs2
  · injection hs2 with hs
    injection hs with hb hs
    injection hs with hv hh
    subst hv hh
    rename_i s
    have := qk_all _ (of_decide_eq_true hb)
    rw [bl_self] at this
    exact ⟨FnOK.pure this rfl rfl h, Nat.le_refl _⟩
  · cases hs2
noncomputable def spDs (f : FuncId) (args : Array Value) (h : AH) : Option (Bool × Value × AH) :=
  cond (Nat.beq f 37) (match args with
    | ⟨[.string s]⟩ => some (okN s, .string (dsB s), h)
    | _ => none) none
theorem spDs_ok : SpOK spDs := by
  intro f args h v h' hs
  unfold spDs at hs
  obtain ⟨hf, hs2⟩ := cond_some hs
  clear hs
  have := Nat.eq_of_beq_eq_true hf
  subst this
  split at hs2
  · injection hs2 with hs
    injection hs with hb hs
    injection hs with hv hh
    subst hv hh
    rename_i s
    have := ds_all _ (of_decide_eq_true hb)
    rw [bl_self] at this
    exact ⟨FnOK.pure this rfl rfl h, Nat.le_refl _⟩
  · cases hs2

/-! Records -/
def rcC (r : Rc) : List Value := [.int .i64 r.at_, strV r.rt, strV r.cl, strV r.ac, strV r.ins, .int .i64 r.st, .int .i64 r.fd]
def rcV (r : Rc) : Value := .agg ⟨rcC r⟩
def rc0 : Rc := ⟨0, [], [], [], [], 0, 0⟩
def cv (L : List Rc) (i : Int) : List Value := [fz ⟨L.map rcV⟩, fz ⟨L.map rcV⟩, .int .i64 (L.length : Int), .int .i64 i]
def pvA : List Rc → Nat → Option Int
  | _, 0 => none
  | L, i + 1 => some (L.getD i rc0).at_
noncomputable def SK1 : SC := ⟨idn, spIk, false, true⟩
theorem SK1_ok : SK1.cfg.OK Tryz.prog := spIk_ok.cfg
noncomputable def SQ1 : SC := ⟨idn, spQk, false, true⟩
theorem SQ1_ok : SQ1.cfg.OK Tryz.prog := spQk_ok.cfg
noncomputable def fdT (s : ByteArray) (Q5 K : Prop) : Prop := bif !(s.toList == (ByteArray.mk #[]).toList) then bif okN s then bif !ikB s then Q5 else K else False else K
noncomputable def orT (a : Int) (Q7 K : Prop) : Option Int → Prop
  | none => K
  | some p => bif decide (a < p) then Q7 else K
noncomputable def ckm (a : Int) (Q1 K : Prop) : Prop := bif decide (a ≥ 0) then bif !decide (a < 345686400000) then Q1 else K else Q1
noncomputable def rfm (a : Int) (Q1 K : Prop) : Prop := bif decide (0 ≤ a) then bif !decide (a ≤ 345686399999) then Q1 else K else Q1
noncomputable def ckT (r : Rc) (p : Option Int) (Q : Int → Prop) (K : Prop) : Prop :=
  bif decide (r.st < 100) then Q 1 else bif decide (r.st > 599) then Q 1 else bif decide (r.fd < 0) then Q 1 else bif decide (r.fd > 4) then Q 1 else orT r.at_ (Q 7) K p
noncomputable def rfT (r : Rc) (p : Option Int) (Q : Int → Prop) (K : Prop) : Prop :=
  bif decide (100 ≤ r.st) then bif !decide (r.st ≤ 599) then Q 1 else bif decide (0 ≤ r.fd) then bif !decide (r.fd ≤ 4) then Q 1 else orT r.at_ (Q 7) K p else Q 1 else Q 1
def ix (vs : List Value) (n i : Int) : List Value := [fz ⟨vs⟩, .int .i64 i, .pointer (some ⟨0, 0, none⟩), fz ⟨vs⟩, .int .i64 n, .int .i64 i]
def iv (vs : List Value) (n i j : Int) : List Value := [fz ⟨vs⟩, .int .i64 i, .pointer (some ⟨0, 0, none⟩), fz ⟨vs⟩, .int .i64 n, .int .i64 i, .slice (some ⟨1, 0, none⟩) 4 4, .int .i64 4, .int .i64 j]
def xH (r : Rc) : AH := ⟨1, 1, [(0, .cells ⟨rcC r⟩ 36 (0, 0))]⟩
def iH (r : Rc) : AH := ⟨2, 2, [(0, .cells ⟨rcC r⟩ 36 (0, 0)), (1, .cells ⟨[strV r.rt, strV r.cl, strV r.ac, strV r.ins]⟩ 9 (0, 0))]⟩
theorem cki0 (vs : List Value) (n i : Int) (r : Rc) (B : List Value → AH → Prop) (Q : AExit → List Value → AH → Prop) : once 0 Tryz.prog SK1 [] noHooks 600 65 [0, 3, 4, 10, 11, 12, 29, 30, 31] [] [2, 0, 3, 4, 10, 11, 12] [] (oneLoop (oneLoop (codeOf Tryz.f16) 4) 9) (iv vs n i 0) (iH r) B Q =
    fdT (bl r.rt) (Q .ret (.int .i64 5 :: ix vs n i) (xH r)) (B (iv vs n i 1) (iH r)) := by kernel_rfl
theorem cki1 (vs : List Value) (n i : Int) (r : Rc) (B : List Value → AH → Prop) (Q : AExit → List Value → AH → Prop) : once 0 Tryz.prog SK1 [] noHooks 600 65 [0, 3, 4, 10, 11, 12, 29, 30, 31] [] [2, 0, 3, 4, 10, 11, 12] [] (oneLoop (oneLoop (codeOf Tryz.f16) 4) 9) (iv vs n i 1) (iH r) B Q =
    fdT (bl r.cl) (Q .ret (.int .i64 5 :: ix vs n i) (xH r)) (B (iv vs n i 2) (iH r)) := by kernel_rfl
theorem cki2 (vs : List Value) (n i : Int) (r : Rc) (B : List Value → AH → Prop) (Q : AExit → List Value → AH → Prop) : once 0 Tryz.prog SK1 [] noHooks 600 65 [0, 3, 4, 10, 11, 12, 29, 30, 31] [] [2, 0, 3, 4, 10, 11, 12] [] (oneLoop (oneLoop (codeOf Tryz.f16) 4) 9) (iv vs n i 2) (iH r) B Q =
    fdT (bl r.ac) (Q .ret (.int .i64 5 :: ix vs n i) (xH r)) (B (iv vs n i 3) (iH r)) := by kernel_rfl
theorem cki3 (vs : List Value) (n i : Int) (r : Rc) (B : List Value → AH → Prop) (Q : AExit → List Value → AH → Prop) : once 0 Tryz.prog SK1 [] noHooks 600 65 [0, 3, 4, 10, 11, 12, 29, 30, 31] [] [2, 0, 3, 4, 10, 11, 12] [] (oneLoop (oneLoop (codeOf Tryz.f16) 4) 9) (iv vs n i 3) (iH r) B Q =
    fdT (bl r.ins) (Q .ret (.int .i64 5 :: ix vs n i) (xH r)) (B (iv vs n i 4) (iH r)) := by kernel_rfl
theorem cki4 (vs : List Value) (n i : Int) (r : Rc) (B : List Value → AH → Prop) (Q : AExit → List Value → AH → Prop) : once 0 Tryz.prog SK1 [] noHooks 600 65 [0, 3, 4, 10, 11, 12, 29, 30, 31] [] [2, 0, 3, 4, 10, 11, 12] [] (oneLoop (oneLoop (codeOf Tryz.f16) 4) 9) (iv vs n i 4) (iH r) B Q = Q (.exit 2) (anyV :: ix vs n i) (xH r) := by kernel_rfl
theorem rfi0 (vs : List Value) (n i : Int) (r : Rc) (B : List Value → AH → Prop) (Q : AExit → List Value → AH → Prop) : once 0 Tryz.prog SQ1 [] noHooks 600 67 [0, 3, 4, 10, 11, 12, 29, 30, 31] [] [2, 0, 3, 4, 10, 11, 12] [] (oneLoop (oneLoop (codeOf Tryz.f10) 4) 9) (iv vs n i 0) (iH r) B Q =
    fdT (bl r.rt) (Q .ret (.int .i64 5 :: ix vs n i) (xH r)) (B (iv vs n i 1) (iH r)) := by kernel_rfl
theorem rfi1 (vs : List Value) (n i : Int) (r : Rc) (B : List Value → AH → Prop) (Q : AExit → List Value → AH → Prop) : once 0 Tryz.prog SQ1 [] noHooks 600 67 [0, 3, 4, 10, 11, 12, 29, 30, 31] [] [2, 0, 3, 4, 10, 11, 12] [] (oneLoop (oneLoop (codeOf Tryz.f10) 4) 9) (iv vs n i 1) (iH r) B Q =
    fdT (bl r.cl) (Q .ret (.int .i64 5 :: ix vs n i) (xH r)) (B (iv vs n i 2) (iH r)) := by kernel_rfl
theorem rfi2 (vs : List Value) (n i : Int) (r : Rc) (B : List Value → AH → Prop) (Q : AExit → List Value → AH → Prop) : once 0 Tryz.prog SQ1 [] noHooks 600 67 [0, 3, 4, 10, 11, 12, 29, 30, 31] [] [2, 0, 3, 4, 10, 11, 12] [] (oneLoop (oneLoop (codeOf Tryz.f10) 4) 9) (iv vs n i 2) (iH r) B Q =
    fdT (bl r.ac) (Q .ret (.int .i64 5 :: ix vs n i) (xH r)) (B (iv vs n i 3) (iH r)) := by kernel_rfl
theorem rfi3 (vs : List Value) (n i : Int) (r : Rc) (B : List Value → AH → Prop) (Q : AExit → List Value → AH → Prop) : once 0 Tryz.prog SQ1 [] noHooks 600 67 [0, 3, 4, 10, 11, 12, 29, 30, 31] [] [2, 0, 3, 4, 10, 11, 12] [] (oneLoop (oneLoop (codeOf Tryz.f10) 4) 9) (iv vs n i 3) (iH r) B Q =
    fdT (bl r.ins) (Q .ret (.int .i64 5 :: ix vs n i) (xH r)) (B (iv vs n i 4) (iH r)) := by kernel_rfl
theorem rfi4 (vs : List Value) (n i : Int) (r : Rc) (B : List Value → AH → Prop) (Q : AExit → List Value → AH → Prop) : once 0 Tryz.prog SQ1 [] noHooks 600 67 [0, 3, 4, 10, 11, 12, 29, 30, 31] [] [2, 0, 3, 4, 10, 11, 12] [] (oneLoop (oneLoop (codeOf Tryz.f10) 4) 9) (iv vs n i 4) (iH r) B Q = Q (.exit 2) (anyV :: ix vs n i) (xH r) := by kernel_rfl
set_option maxRecDepth 20000 in
theorem ckX (C : List Value → AH → Prop) (B : List Value → AH → Prop) (Q : AExit → List Value → AH → Prop) : ∀ (L : List Rc) (i : Nat), L.length ≤ 5 → i < L.length → once 0 Tryz.prog SK1 [] (hook1 9 (hookLS 0 65 [0, 3, 4, 10, 11, 12, 29, 30, 31] [] [2, 0, 3, 4, 10, 11, 12] (fun vals h K => C vals h ∧ K (.exit 2) (anyV :: ix (L.map rcV) (L.length : Int) (i : Int)) (xH (L.getD i rc0))))) 600 65 [0, 10, 11, 12] [] [2] [] (oneLoop (codeOf Tryz.f16) 4) (cv L (i : Int)) h0 B Q =
    ckm (L.getD i rc0).at_ (Q .ret [.int .i64 1] h0) (C (iv (L.map rcV) (L.length : Int) (i : Int) 0) (iH (L.getD i rc0)) ∧ ckT (L.getD i rc0) (pvA L i) (fun e => Q .ret [.int .i64 e] h0) (B (cv L ((i + 1 : Nat) : Int)) h0))
  | [a], 0, _, _ => by kernel_rfl
  | [a, b], 0, _, _ => by kernel_rfl
  | [a, b], 1, _, _ => by kernel_rfl
  | [a, b, c], 0, _, _ => by kernel_rfl
  | [a, b, c], 1, _, _ => by kernel_rfl
  | [a, b, c], 2, _, _ => by kernel_rfl
  | [a, b, c, d], 0, _, _ => by kernel_rfl
  | [a, b, c, d], 1, _, _ => by kernel_rfl
  | [a, b, c, d], 2, _, _ => by kernel_rfl
  | [a, b, c, d], 3, _, _ => by kernel_rfl
  | [a, b, c, d, e], 0, _, _ => by kernel_rfl
  | [a, b, c, d, e], 1, _, _ => by kernel_rfl
  | [a, b, c, d, e], 2, _, _ => by kernel_rfl
  | [a, b, c, d, e], 3, _, _ => by kernel_rfl
  | [a, b, c, d, e], 4, _, _ => by kernel_rfl
  | _ :: _ :: _ :: _ :: _ :: _ :: _, _, h, _ => absurd h (by simp)
  | [], _, _, h => absurd h (by simp)
  | [_], i + 1, _, h => absurd h (by simp)
  | [_, _], i + 2, _, h => absurd h (by simp)
  | [_, _, _], i + 3, _, h => absurd h (by simp)
  | [_, _, _, _], i + 4, _, h => absurd h (by simp)
  | [_, _, _, _, _], i + 5, _, h => absurd h (by simp)
set_option maxRecDepth 20000 in
theorem ckR (C : List Value → AH → Prop) (B : List Value → AH → Prop) (Q : AExit → List Value → AH → Prop) : ∀ (L : List Rc) (i : Nat), L.length ≤ 5 → i < L.length → once 0 Tryz.prog SK1 [] (hook1 9 (hookLS 0 65 [0, 3, 4, 10, 11, 12, 29, 30, 31] [] [2, 0, 3, 4, 10, 11, 12] (fun vals h K => C vals h ∧ K .ret (.int .i64 5 :: ix (L.map rcV) (L.length : Int) (i : Int)) (xH (L.getD i rc0))))) 600 65 [0, 10, 11, 12] [] [2] [] (oneLoop (codeOf Tryz.f16) 4) (cv L (i : Int)) h0 B Q =
    ckm (L.getD i rc0).at_ (Q .ret [.int .i64 1] h0) (C (iv (L.map rcV) (L.length : Int) (i : Int) 0) (iH (L.getD i rc0)) ∧ Q .ret [.int .i64 5] h0)
  | [a], 0, _, _ => by kernel_rfl
  | [a, b], 0, _, _ => by kernel_rfl
  | [a, b], 1, _, _ => by kernel_rfl
  | [a, b, c], 0, _, _ => by kernel_rfl
  | [a, b, c], 1, _, _ => by kernel_rfl
  | [a, b, c], 2, _, _ => by kernel_rfl
  | [a, b, c, d], 0, _, _ => by kernel_rfl
  | [a, b, c, d], 1, _, _ => by kernel_rfl
  | [a, b, c, d], 2, _, _ => by kernel_rfl
  | [a, b, c, d], 3, _, _ => by kernel_rfl
  | [a, b, c, d, e], 0, _, _ => by kernel_rfl
  | [a, b, c, d, e], 1, _, _ => by kernel_rfl
  | [a, b, c, d, e], 2, _, _ => by kernel_rfl
  | [a, b, c, d, e], 3, _, _ => by kernel_rfl
  | [a, b, c, d, e], 4, _, _ => by kernel_rfl
  | _ :: _ :: _ :: _ :: _ :: _ :: _, _, h, _ => absurd h (by simp)
  | [], _, _, h => absurd h (by simp)
  | [_], i + 1, _, h => absurd h (by simp)
  | [_, _], i + 2, _, h => absurd h (by simp)
  | [_, _, _], i + 3, _, h => absurd h (by simp)
  | [_, _, _, _], i + 4, _, h => absurd h (by simp)
  | [_, _, _, _, _], i + 5, _, h => absurd h (by simp)
set_option maxRecDepth 20000 in
theorem rfX (C : List Value → AH → Prop) (B : List Value → AH → Prop) (Q : AExit → List Value → AH → Prop) : ∀ (L : List Rc) (i : Nat), L.length ≤ 5 → i < L.length → once 0 Tryz.prog SQ1 [] (hook1 9 (hookLS 0 67 [0, 3, 4, 10, 11, 12, 29, 30, 31] [] [2, 0, 3, 4, 10, 11, 12] (fun vals h K => C vals h ∧ K (.exit 2) (anyV :: ix (L.map rcV) (L.length : Int) (i : Int)) (xH (L.getD i rc0))))) 600 67 [0, 10, 11, 12] [] [2] [] (oneLoop (codeOf Tryz.f10) 4) (cv L (i : Int)) h0 B Q =
    rfm (L.getD i rc0).at_ (Q .ret [.int .i64 1] h0) (C (iv (L.map rcV) (L.length : Int) (i : Int) 0) (iH (L.getD i rc0)) ∧ rfT (L.getD i rc0) (pvA L i) (fun e => Q .ret [.int .i64 e] h0) (B (cv L ((i + 1 : Nat) : Int)) h0))
  | [a], 0, _, _ => by kernel_rfl
  | [a, b], 0, _, _ => by kernel_rfl
  | [a, b], 1, _, _ => by kernel_rfl
  | [a, b, c], 0, _, _ => by kernel_rfl
  | [a, b, c], 1, _, _ => by kernel_rfl
  | [a, b, c], 2, _, _ => by kernel_rfl
  | [a, b, c, d], 0, _, _ => by kernel_rfl
  | [a, b, c, d], 1, _, _ => by kernel_rfl
  | [a, b, c, d], 2, _, _ => by kernel_rfl
  | [a, b, c, d], 3, _, _ => by kernel_rfl
  | [a, b, c, d, e], 0, _, _ => by kernel_rfl
  | [a, b, c, d, e], 1, _, _ => by kernel_rfl
  | [a, b, c, d, e], 2, _, _ => by kernel_rfl
  | [a, b, c, d, e], 3, _, _ => by kernel_rfl
  | [a, b, c, d, e], 4, _, _ => by kernel_rfl
  | _ :: _ :: _ :: _ :: _ :: _ :: _, _, h, _ => absurd h (by simp)
  | [], _, _, h => absurd h (by simp)
  | [_], i + 1, _, h => absurd h (by simp)
  | [_, _], i + 2, _, h => absurd h (by simp)
  | [_, _, _], i + 3, _, h => absurd h (by simp)
  | [_, _, _, _], i + 4, _, h => absurd h (by simp)
  | [_, _, _, _, _], i + 5, _, h => absurd h (by simp)
set_option maxRecDepth 20000 in
theorem rfR (C : List Value → AH → Prop) (B : List Value → AH → Prop) (Q : AExit → List Value → AH → Prop) : ∀ (L : List Rc) (i : Nat), L.length ≤ 5 → i < L.length → once 0 Tryz.prog SQ1 [] (hook1 9 (hookLS 0 67 [0, 3, 4, 10, 11, 12, 29, 30, 31] [] [2, 0, 3, 4, 10, 11, 12] (fun vals h K => C vals h ∧ K .ret (.int .i64 5 :: ix (L.map rcV) (L.length : Int) (i : Int)) (xH (L.getD i rc0))))) 600 67 [0, 10, 11, 12] [] [2] [] (oneLoop (codeOf Tryz.f10) 4) (cv L (i : Int)) h0 B Q =
    rfm (L.getD i rc0).at_ (Q .ret [.int .i64 1] h0) (C (iv (L.map rcV) (L.length : Int) (i : Int) 0) (iH (L.getD i rc0)) ∧ Q .ret [.int .i64 5] h0)
  | [a], 0, _, _ => by kernel_rfl
  | [a, b], 0, _, _ => by kernel_rfl
  | [a, b], 1, _, _ => by kernel_rfl
  | [a, b, c], 0, _, _ => by kernel_rfl
  | [a, b, c], 1, _, _ => by kernel_rfl
  | [a, b, c], 2, _, _ => by kernel_rfl
  | [a, b, c, d], 0, _, _ => by kernel_rfl
  | [a, b, c, d], 1, _, _ => by kernel_rfl
  | [a, b, c, d], 2, _, _ => by kernel_rfl
  | [a, b, c, d], 3, _, _ => by kernel_rfl
  | [a, b, c, d, e], 0, _, _ => by kernel_rfl
  | [a, b, c, d, e], 1, _, _ => by kernel_rfl
  | [a, b, c, d, e], 2, _, _ => by kernel_rfl
  | [a, b, c, d, e], 3, _, _ => by kernel_rfl
  | [a, b, c, d, e], 4, _, _ => by kernel_rfl
  | _ :: _ :: _ :: _ :: _ :: _ :: _, _, h, _ => absurd h (by simp)
  | [], _, _, h => absurd h (by simp)
  | [_], i + 1, _, h => absurd h (by simp)
  | [_, _], i + 2, _, h => absurd h (by simp)
  | [_, _, _], i + 3, _, h => absurd h (by simp)
  | [_, _, _, _], i + 4, _, h => absurd h (by simp)
  | [_, _, _, _, _], i + 5, _, h => absurd h (by simp)
end Go.Proofs.YtfhhhfgbedddhaaGreatDoor
