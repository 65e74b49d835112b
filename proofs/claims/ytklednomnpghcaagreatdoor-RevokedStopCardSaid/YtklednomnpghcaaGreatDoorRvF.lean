/-
  Tokens: sums.
-/
import Derived.Test.YtklednomnpghcaaGreatDoorRvE
namespace Go.Proofs.YtklednomnpghcaaGreatDoor
open Go.Ev Go.RowKit RecLaw PathLaw QueryLaw B64Law

noncomputable def SSm0 : SC := ⟨idn, fun _ _ _ => none, true, true⟩
theorem SSm0_ok : SSm0.cfg.OK Tryz.prog := none_ok.cfg
def xorI (a b : Int) : Int := IntKind.u64.wrap ((BitVec.ofInt 64 a ^^^ BitVec.ofInt 64 b).toNat : Int)
def hsI (h c : Int) : Int := IntKind.u64.wrap (xorI h (IntKind.u64.wrap c) * 1099511628211)
def mixI (h : Int) : Int := IntKind.u64.wrap (xorI h (h.fdiv 536870912) * 13787848793156543929)
def rwH (ss : List Value) : AH := ⟨1, 1, [(0, .cells ⟨ss⟩ 9 (0, 0))]⟩
def five (a b c d e : ByteArray) : List Value := [.string a, .string b, .string c, .string d, .string e]
theorem sm_in (a b c d e s : ByteArray) (h j n i : Int) (B : List Value → AH → Prop) (Q : AExit → List Value → AH → Prop) : once 0 Tryz.prog SSm0 [] noHooks 900 49 [5, 7, 13, 14, 15, 20, 21] [] [5, 13, 14, 15] [] (oneLoop (oneLoop (codeOf Tryz.f59) 3) 6) [.int .u64 h, .string s, .slice (some ⟨0, 0, none⟩) 5 5, .int .i64 5, .int .i64 j, .int .i64 n, .int .i64 i] (rwH (five a b c d e)) B Q =
    bif decide (i < n) then rdS s i (B [.int .u64 (hsI h (bT s i)), .string s, .slice (some ⟨0, 0, none⟩) 5 5, .int .i64 5, .int .i64 j, .int .i64 n, .int .i64 (W (i + 1))] (rwH (five a b c d e))) else Q (.exit 2) [.int .u64 h, .slice (some ⟨0, 0, none⟩) 5 5, .int .i64 5, .int .i64 j] (rwH (five a b c d e)) := by kernel_rfl
theorem sm_o0 (s0 s1 s2 s3 s4 : ByteArray) (a b : Int) (C : List Value → AH → Prop) (B : List Value → AH → Prop) (Q : AExit → List Value → AH → Prop) : once 0 Tryz.prog SSm0 [] (hook1 6 (hookLS 0 49 [5, 7, 13, 14, 15, 20, 21] [] [5, 13, 14, 15] (fun vals h K => C vals h ∧ K (.exit 2) [.int .u64 b, .slice (some ⟨0, 0, none⟩) 5 5, .int .i64 5, .int .i64 0] (rwH (five s0 s1 s2 s3 s4))))) 900 49 [5, 13, 14, 15] [] [5] [] (oneLoop (codeOf Tryz.f59) 3) [.int .u64 a, .slice (some ⟨0, 0, none⟩) 5 5, .int .i64 5, .int .i64 0] (rwH (five s0 s1 s2 s3 s4)) B Q =
    (C [.int .u64 a, .string s0, .slice (some ⟨0, 0, none⟩) 5 5, .int .i64 5, .int .i64 0, .int .i64 (s0.size : Int), .int .i64 0] (rwH (five s0 s1 s2 s3 s4)) ∧ B [.int .u64 b, .slice (some ⟨0, 0, none⟩) 5 5, .int .i64 5, .int .i64 1] (rwH (five s0 s1 s2 s3 s4))) := by kernel_rfl
theorem sm_o1 (s0 s1 s2 s3 s4 : ByteArray) (a b : Int) (C : List Value → AH → Prop) (B : List Value → AH → Prop) (Q : AExit → List Value → AH → Prop) : once 0 Tryz.prog SSm0 [] (hook1 6 (hookLS 0 49 [5, 7, 13, 14, 15, 20, 21] [] [5, 13, 14, 15] (fun vals h K => C vals h ∧ K (.exit 2) [.int .u64 b, .slice (some ⟨0, 0, none⟩) 5 5, .int .i64 5, .int .i64 1] (rwH (five s0 s1 s2 s3 s4))))) 900 49 [5, 13, 14, 15] [] [5] [] (oneLoop (codeOf Tryz.f59) 3) [.int .u64 a, .slice (some ⟨0, 0, none⟩) 5 5, .int .i64 5, .int .i64 1] (rwH (five s0 s1 s2 s3 s4)) B Q =
    (C [.int .u64 a, .string s1, .slice (some ⟨0, 0, none⟩) 5 5, .int .i64 5, .int .i64 1, .int .i64 (s1.size : Int), .int .i64 0] (rwH (five s0 s1 s2 s3 s4)) ∧ B [.int .u64 b, .slice (some ⟨0, 0, none⟩) 5 5, .int .i64 5, .int .i64 2] (rwH (five s0 s1 s2 s3 s4))) := by kernel_rfl
theorem sm_o2 (s0 s1 s2 s3 s4 : ByteArray) (a b : Int) (C : List Value → AH → Prop) (B : List Value → AH → Prop) (Q : AExit → List Value → AH → Prop) : once 0 Tryz.prog SSm0 [] (hook1 6 (hookLS 0 49 [5, 7, 13, 14, 15, 20, 21] [] [5, 13, 14, 15] (fun vals h K => C vals h ∧ K (.exit 2) [.int .u64 b, .slice (some ⟨0, 0, none⟩) 5 5, .int .i64 5, .int .i64 2] (rwH (five s0 s1 s2 s3 s4))))) 900 49 [5, 13, 14, 15] [] [5] [] (oneLoop (codeOf Tryz.f59) 3) [.int .u64 a, .slice (some ⟨0, 0, none⟩) 5 5, .int .i64 5, .int .i64 2] (rwH (five s0 s1 s2 s3 s4)) B Q =
    (C [.int .u64 a, .string s2, .slice (some ⟨0, 0, none⟩) 5 5, .int .i64 5, .int .i64 2, .int .i64 (s2.size : Int), .int .i64 0] (rwH (five s0 s1 s2 s3 s4)) ∧ B [.int .u64 b, .slice (some ⟨0, 0, none⟩) 5 5, .int .i64 5, .int .i64 3] (rwH (five s0 s1 s2 s3 s4))) := by kernel_rfl
theorem sm_o3 (s0 s1 s2 s3 s4 : ByteArray) (a b : Int) (C : List Value → AH → Prop) (B : List Value → AH → Prop) (Q : AExit → List Value → AH → Prop) : once 0 Tryz.prog SSm0 [] (hook1 6 (hookLS 0 49 [5, 7, 13, 14, 15, 20, 21] [] [5, 13, 14, 15] (fun vals h K => C vals h ∧ K (.exit 2) [.int .u64 b, .slice (some ⟨0, 0, none⟩) 5 5, .int .i64 5, .int .i64 3] (rwH (five s0 s1 s2 s3 s4))))) 900 49 [5, 13, 14, 15] [] [5] [] (oneLoop (codeOf Tryz.f59) 3) [.int .u64 a, .slice (some ⟨0, 0, none⟩) 5 5, .int .i64 5, .int .i64 3] (rwH (five s0 s1 s2 s3 s4)) B Q =
    (C [.int .u64 a, .string s3, .slice (some ⟨0, 0, none⟩) 5 5, .int .i64 5, .int .i64 3, .int .i64 (s3.size : Int), .int .i64 0] (rwH (five s0 s1 s2 s3 s4)) ∧ B [.int .u64 b, .slice (some ⟨0, 0, none⟩) 5 5, .int .i64 5, .int .i64 4] (rwH (five s0 s1 s2 s3 s4))) := by kernel_rfl
theorem sm_o4 (s0 s1 s2 s3 s4 : ByteArray) (a b : Int) (C : List Value → AH → Prop) (B : List Value → AH → Prop) (Q : AExit → List Value → AH → Prop) : once 0 Tryz.prog SSm0 [] (hook1 6 (hookLS 0 49 [5, 7, 13, 14, 15, 20, 21] [] [5, 13, 14, 15] (fun vals h K => C vals h ∧ K (.exit 2) [.int .u64 b, .slice (some ⟨0, 0, none⟩) 5 5, .int .i64 5, .int .i64 4] (rwH (five s0 s1 s2 s3 s4))))) 900 49 [5, 13, 14, 15] [] [5] [] (oneLoop (codeOf Tryz.f59) 3) [.int .u64 a, .slice (some ⟨0, 0, none⟩) 5 5, .int .i64 5, .int .i64 4] (rwH (five s0 s1 s2 s3 s4)) B Q =
    (C [.int .u64 a, .string s4, .slice (some ⟨0, 0, none⟩) 5 5, .int .i64 5, .int .i64 4, .int .i64 (s4.size : Int), .int .i64 0] (rwH (five s0 s1 s2 s3 s4)) ∧ B [.int .u64 b, .slice (some ⟨0, 0, none⟩) 5 5, .int .i64 5, .int .i64 5] (rwH (five s0 s1 s2 s3 s4))) := by kernel_rfl
theorem sm_o5 (s0 s1 s2 s3 s4 : ByteArray) (a b : Int) (C : List Value → AH → Prop) (B : List Value → AH → Prop) (Q : AExit → List Value → AH → Prop) : once 0 Tryz.prog SSm0 [] noHooks 900 49 [5, 13, 14, 15] [] [5] [] (oneLoop (codeOf Tryz.f59) 3) [.int .u64 a, .slice (some ⟨0, 0, none⟩) 5 5, .int .i64 5, .int .i64 5] (rwH (five s0 s1 s2 s3 s4)) B Q =
    Q (.exit 0) [.int .u64 a] h0 := by kernel_rfl
noncomputable def spRe (f : FuncId) (args : Array Value) (h : AH) : Option (Bool × Value × AH) :=
  cond (Nat.beq f 106) (match args with
    | ⟨[.string s, .int .i64 n]⟩ => some (decide (0 ≤ n) && decide (n ≤ 100000) && Nat.ble (s.size * n.toNat) 100000, .string (bl (Lib.repeatL s.data.toList n.toNat)), h)
    | _ => none) none
theorem spRe_ok : SpOK spRe := by
  intro f args h v h' hs
  unfold spRe at hs
  obtain ⟨hf, hs2⟩ := cond_some hs
  clear hs
  have := Nat.eq_of_beq_eq_true hf
  subst this
  split at hs2
  · injection hs2 with hs
    injection hs with hb hs
    injection hs with hv hh
    subst hv hh
    rename_i s n
    simp only [Bool.and_eq_true, decide_eq_true_eq, Nat.ble_eq] at hb
    obtain ⟨⟨b1, b2⟩, b3⟩ := hb
    have e : n = ((n.toNat : Nat) : Int) := (Int.toNat_of_nonneg b1).symm
    have hF : CallOK Tryz.prog 106 ⟨[.string s, .int .i64 ((n.toNat : Nat) : Int)]⟩ h (.string (bl (Lib.repeatL s.data.toList n.toNat))) h := flat_call (args := [.string s, .int .i64 ((n.toNat : Nat) : Int)]) rfl rfl fun w => Tryz.strings_Repeat s n.toNat w (by omega) (by omega)
    rw [← e] at hF
    exact ⟨hF, Nat.le_refl _⟩
  · cases hs2
noncomputable def SSm (x : Int) (f : ByteArray) : SC := ⟨idn, spOr (spT 105 [.int .u64 x, .int .i64 16] (.string f)) spRe, true, true⟩
def stH : Int := 14695981039346656037
noncomputable def rpT (n : Int) (f : ByteArray) (K : ByteArray → Prop) : Prop := bif decide (0 ≤ n) && decide (n ≤ 100000) && Nat.ble ((ByteArray.mk #[48]).size * n.toNat) 100000 then kq (bl (Lib.repeatL (ByteArray.mk #[48]).data.toList n.toNat)) f (K (bl (Lib.repeatL (ByteArray.mk #[48]).data.toList n.toNat) ++ f)) else False
theorem sm_f (s t f : ByteArray) (x b : Int) (C : List Value → AH → Prop) (Q : Value → Prop) : tfn Tryz.prog (SSm x f) [] (hook1 3 (hookLS 0 49 [5, 13, 14, 15] [] [5] (fun vals h K => C vals h ∧ K (.exit 0) [.int .u64 b] h0))) 900 [] Tryz.f59 [.string s, .string t] h0 (fun v _ => Q v) =
    (C [.int .u64 stH, .slice (some ⟨0, 0, none⟩) 5 5, .int .i64 5, .int .i64 0] (rwH (five s ⟨#[0]⟩ t ⟨#[0]⟩ s)) ∧ tqU [.int .u64 (mixI (mixI (mixI b))), .int .i64 16] [.int .u64 x, .int .i64 16] (rpT (W (16 - (f.size : Int))) f fun v => Q (.string v))) := by kernel_rfl
theorem oneSU3 : (loopAt (codeOf Tryz.f59) 3).length = 1 := by kernel_rfl
theorem oneSU6 : (loopAt (oneLoop (codeOf Tryz.f59) 3) 6).length = 1 := by kernel_rfl
theorem someSU : Tryz.f59.body.isSome = true := by kernel_rfl
def hsL (h : Int) (l : Bs) : Int := l.foldl (fun h c => hsI h (c.toNat : Int)) h
theorem sm_it (n : Nat) {vals : List Value} {h : AH} {K : AExit → List Value → AH → Prop} (hx : once 0 Tryz.prog SSm0 [] noHooks 900 49 [5, 7, 13, 14, 15, 20, 21] [] [5, 13, 14, 15] [] (oneLoop (oneLoop (codeOf Tryz.f59) 3) 6) vals h (fun v g => iter 0 Tryz.prog SSm0 [] noHooks 900 49 [5, 7, 13, 14, 15, 20, 21] [] [5, 13, 14, 15] [] (oneLoop (oneLoop (codeOf Tryz.f59) 3) 6) n v g K) K) : iter 0 Tryz.prog SSm0 [] noHooks 900 49 [5, 7, 13, 14, 15, 20, 21] [] [5, 13, 14, 15] [] (oneLoop (oneLoop (codeOf Tryz.f59) 3) 6) (n + 1) vals h K := hx
theorem sm_inl (a b c d e : ByteArray) (j : Int) (K : AExit → List Value → AH → Prop) : ∀ (l pre : Bs) (h : Int), (pre ++ l).length ≤ 100000 → K (.exit 2) [.int .u64 (hsL h l), .slice (some ⟨0, 0, none⟩) 5 5, .int .i64 5, .int .i64 j] (rwH (five a b c d e)) → iter 0 Tryz.prog SSm0 [] noHooks 900 49 [5, 7, 13, 14, 15, 20, 21] [] [5, 13, 14, 15] [] (oneLoop (oneLoop (codeOf Tryz.f59) 3) 6) (l.length + 1) [.int .u64 h, .string (bl (pre ++ l)), .slice (some ⟨0, 0, none⟩) 5 5, .int .i64 5, .int .i64 j, .int .i64 ((pre ++ l).length : Int), .int .i64 (pre.length : Int)] (rwH (five a b c d e)) K
  | [], pre, h, hl, hK => sm_it 0 ((sm_in a b c d e _ _ _ _ _ _ _).mpr (pick_f (decide_eq_false (by simp)) hK))
  | x :: l, pre, h, hl, hK => by
    have hlen : (pre ++ x :: l).length = pre.length + (l.length + 1) := by simp
    have b0 : bT (bl (pre ++ x :: l)) ((pre.length : Nat) : Int) = (x.toNat : Int) := bT_at 0 rfl
    have w1 : W ((pre.length : Int) + 1) = (((pre ++ [x]).length : Nat) : Int) := by rw [List.length_append]; exact w_nat 1 (by omega) (by omega)
    have e1 : pre ++ x :: l = (pre ++ [x]) ++ l := by simp
    refine sm_it _ ((sm_in a b c d e _ _ _ _ _ _ _).mpr (pick_t (decide_eq_true (by omega)) (rdS_mk (by rw [bl_size]; omega) ?_)))
    rw [b0, w1]
    have := sm_inl a b c d e j K l (pre ++ [x]) (hsI h (x.toNat : Int)) (by rw [← e1]; exact hl) hK
    rw [← e1] at this
    exact this
theorem sm_sp (a b c d e : ByteArray) (j h : Int) {s : Bs} (hl : s.length ≤ 100000) : LoopsOK 0 Tryz.prog 49 (hook1 6 (hookLS 0 49 [5, 7, 13, 14, 15, 20, 21] [] [5, 13, 14, 15] (fun vals hh K => (vals = [.int .u64 h, .string (bl s), .slice (some ⟨0, 0, none⟩) 5 5, .int .i64 5, .int .i64 j, .int .i64 ((bl s).size : Int), .int .i64 0] ∧ hh = rwH (five a b c d e)) ∧ K (.exit 2) [.int .u64 (hsL h s), .slice (some ⟨0, 0, none⟩) 5 5, .int .i64 5, .int .i64 j] (rwH (five a b c d e))))) (oneLoop (codeOf Tryz.f59) 3) := by
  refine loops_one oneSU6 (hook_ok (G := []) (L := noHooks) (f := 900) (sameX := []) SSm0_ok mixed (by decide) (loops_none _ _ _ _) ?_)
  rintro vals hh K ⟨⟨rfl, rfl⟩, hK⟩
  have := sm_inl a b c d e j K s [] h (by simpa using hl) hK
  rw [List.nil_append] at this
  rw [bl_size]
  exact ⟨_, this⟩
theorem sm_ot (n : Nat) {vals : List Value} {h : AH} {K : AExit → List Value → AH → Prop} (L : Hooks) (hL : LoopsOK 0 Tryz.prog 49 L (oneLoop (codeOf Tryz.f59) 3)) (hx : once 0 Tryz.prog SSm0 [] L 900 49 [5, 13, 14, 15] [] [5] [] (oneLoop (codeOf Tryz.f59) 3) vals h (fun v g => iterE 0 Tryz.prog 49 [5, 13, 14, 15] [] [5] [] (oneLoop (codeOf Tryz.f59) 3) n v g K) K) : iterE 0 Tryz.prog 49 [5, 13, 14, 15] [] [5] [] (oneLoop (codeOf Tryz.f59) 3) (n + 1) vals h K := ⟨SSm0, [], L, 900, SSm0_ok, hL, hx⟩
set_option maxRecDepth 20000 in
theorem sm_s0 {z0 z1 z2 z3 z4 : Bs} (hl : z0.length ≤ 100000) (a : Int) (n : Nat) (K : AExit → List Value → AH → Prop) (hx : iterE 0 Tryz.prog 49 [5, 13, 14, 15] [] [5] [] (oneLoop (codeOf Tryz.f59) 3) n [.int .u64 (hsL a z0), .slice (some ⟨0, 0, none⟩) 5 5, .int .i64 5, .int .i64 1] (rwH (five (bl z0) (bl z1) (bl z2) (bl z3) (bl z4))) K) : iterE 0 Tryz.prog 49 [5, 13, 14, 15] [] [5] [] (oneLoop (codeOf Tryz.f59) 3) (n + 1) [.int .u64 a, .slice (some ⟨0, 0, none⟩) 5 5, .int .i64 5, .int .i64 0] (rwH (five (bl z0) (bl z1) (bl z2) (bl z3) (bl z4))) K :=
  sm_ot n _ (sm_sp _ _ _ _ _ 0 a hl) ((sm_o0 (bl z0) (bl z1) (bl z2) (bl z3) (bl z4) a (hsL a z0) (fun vals h => vals = [.int .u64 a, .string (bl z0), .slice (some ⟨0, 0, none⟩) 5 5, .int .i64 5, .int .i64 0, .int .i64 ((bl z0).size : Int), .int .i64 0] ∧ h = rwH (five (bl z0) (bl z1) (bl z2) (bl z3) (bl z4))) _ _).mpr ⟨⟨rfl, rfl⟩, hx⟩)
set_option maxRecDepth 20000 in
theorem sm_s1 {z0 z1 z2 z3 z4 : Bs} (hl : z1.length ≤ 100000) (a : Int) (n : Nat) (K : AExit → List Value → AH → Prop) (hx : iterE 0 Tryz.prog 49 [5, 13, 14, 15] [] [5] [] (oneLoop (codeOf Tryz.f59) 3) n [.int .u64 (hsL a z1), .slice (some ⟨0, 0, none⟩) 5 5, .int .i64 5, .int .i64 2] (rwH (five (bl z0) (bl z1) (bl z2) (bl z3) (bl z4))) K) : iterE 0 Tryz.prog 49 [5, 13, 14, 15] [] [5] [] (oneLoop (codeOf Tryz.f59) 3) (n + 1) [.int .u64 a, .slice (some ⟨0, 0, none⟩) 5 5, .int .i64 5, .int .i64 1] (rwH (five (bl z0) (bl z1) (bl z2) (bl z3) (bl z4))) K :=
  sm_ot n _ (sm_sp _ _ _ _ _ 1 a hl) ((sm_o1 (bl z0) (bl z1) (bl z2) (bl z3) (bl z4) a (hsL a z1) (fun vals h => vals = [.int .u64 a, .string (bl z1), .slice (some ⟨0, 0, none⟩) 5 5, .int .i64 5, .int .i64 1, .int .i64 ((bl z1).size : Int), .int .i64 0] ∧ h = rwH (five (bl z0) (bl z1) (bl z2) (bl z3) (bl z4))) _ _).mpr ⟨⟨rfl, rfl⟩, hx⟩)
set_option maxRecDepth 20000 in
theorem sm_s2 {z0 z1 z2 z3 z4 : Bs} (hl : z2.length ≤ 100000) (a : Int) (n : Nat) (K : AExit → List Value → AH → Prop) (hx : iterE 0 Tryz.prog 49 [5, 13, 14, 15] [] [5] [] (oneLoop (codeOf Tryz.f59) 3) n [.int .u64 (hsL a z2), .slice (some ⟨0, 0, none⟩) 5 5, .int .i64 5, .int .i64 3] (rwH (five (bl z0) (bl z1) (bl z2) (bl z3) (bl z4))) K) : iterE 0 Tryz.prog 49 [5, 13, 14, 15] [] [5] [] (oneLoop (codeOf Tryz.f59) 3) (n + 1) [.int .u64 a, .slice (some ⟨0, 0, none⟩) 5 5, .int .i64 5, .int .i64 2] (rwH (five (bl z0) (bl z1) (bl z2) (bl z3) (bl z4))) K :=
  sm_ot n _ (sm_sp _ _ _ _ _ 2 a hl) ((sm_o2 (bl z0) (bl z1) (bl z2) (bl z3) (bl z4) a (hsL a z2) (fun vals h => vals = [.int .u64 a, .string (bl z2), .slice (some ⟨0, 0, none⟩) 5 5, .int .i64 5, .int .i64 2, .int .i64 ((bl z2).size : Int), .int .i64 0] ∧ h = rwH (five (bl z0) (bl z1) (bl z2) (bl z3) (bl z4))) _ _).mpr ⟨⟨rfl, rfl⟩, hx⟩)
set_option maxRecDepth 20000 in
theorem sm_s3 {z0 z1 z2 z3 z4 : Bs} (hl : z3.length ≤ 100000) (a : Int) (n : Nat) (K : AExit → List Value → AH → Prop) (hx : iterE 0 Tryz.prog 49 [5, 13, 14, 15] [] [5] [] (oneLoop (codeOf Tryz.f59) 3) n [.int .u64 (hsL a z3), .slice (some ⟨0, 0, none⟩) 5 5, .int .i64 5, .int .i64 4] (rwH (five (bl z0) (bl z1) (bl z2) (bl z3) (bl z4))) K) : iterE 0 Tryz.prog 49 [5, 13, 14, 15] [] [5] [] (oneLoop (codeOf Tryz.f59) 3) (n + 1) [.int .u64 a, .slice (some ⟨0, 0, none⟩) 5 5, .int .i64 5, .int .i64 3] (rwH (five (bl z0) (bl z1) (bl z2) (bl z3) (bl z4))) K :=
  sm_ot n _ (sm_sp _ _ _ _ _ 3 a hl) ((sm_o3 (bl z0) (bl z1) (bl z2) (bl z3) (bl z4) a (hsL a z3) (fun vals h => vals = [.int .u64 a, .string (bl z3), .slice (some ⟨0, 0, none⟩) 5 5, .int .i64 5, .int .i64 3, .int .i64 ((bl z3).size : Int), .int .i64 0] ∧ h = rwH (five (bl z0) (bl z1) (bl z2) (bl z3) (bl z4))) _ _).mpr ⟨⟨rfl, rfl⟩, hx⟩)
set_option maxRecDepth 20000 in
theorem sm_s4 {z0 z1 z2 z3 z4 : Bs} (hl : z4.length ≤ 100000) (a : Int) (n : Nat) (K : AExit → List Value → AH → Prop) (hx : iterE 0 Tryz.prog 49 [5, 13, 14, 15] [] [5] [] (oneLoop (codeOf Tryz.f59) 3) n [.int .u64 (hsL a z4), .slice (some ⟨0, 0, none⟩) 5 5, .int .i64 5, .int .i64 5] (rwH (five (bl z0) (bl z1) (bl z2) (bl z3) (bl z4))) K) : iterE 0 Tryz.prog 49 [5, 13, 14, 15] [] [5] [] (oneLoop (codeOf Tryz.f59) 3) (n + 1) [.int .u64 a, .slice (some ⟨0, 0, none⟩) 5 5, .int .i64 5, .int .i64 4] (rwH (five (bl z0) (bl z1) (bl z2) (bl z3) (bl z4))) K :=
  sm_ot n _ (sm_sp _ _ _ _ _ 4 a hl) ((sm_o4 (bl z0) (bl z1) (bl z2) (bl z3) (bl z4) a (hsL a z4) (fun vals h => vals = [.int .u64 a, .string (bl z4), .slice (some ⟨0, 0, none⟩) 5 5, .int .i64 5, .int .i64 4, .int .i64 ((bl z4).size : Int), .int .i64 0] ∧ h = rwH (five (bl z0) (bl z1) (bl z2) (bl z3) (bl z4))) _ _).mpr ⟨⟨rfl, rfl⟩, hx⟩)
set_option maxRecDepth 20000 in
theorem sm_s5 {z0 z1 z2 z3 z4 : Bs} (a : Int) (K : AExit → List Value → AH → Prop) (hx : K (.exit 0) [.int .u64 a] h0) : iterE 0 Tryz.prog 49 [5, 13, 14, 15] [] [5] [] (oneLoop (codeOf Tryz.f59) 3) 1 [.int .u64 a, .slice (some ⟨0, 0, none⟩) 5 5, .int .i64 5, .int .i64 5] (rwH (five (bl z0) (bl z1) (bl z2) (bl z3) (bl z4))) K :=
  sm_ot 0 noHooks (loops_none _ _ _ _) ((sm_o5 (bl z0) (bl z1) (bl z2) (bl z3) (bl z4) a 0 (fun _ _ => True) _ _).mpr hx)
theorem u64_range (n : Int) : ∃ k : Nat, IntKind.u64.wrap n = (k : Int) ∧ k < 18446744073709551616 := by
  have e : IntKind.u64.wrap n = n % 18446744073709551616 := by
    unfold IntKind.wrap
    show (let m := n % (2 ^ 64 : Int); if false && _ then _ else m) = _
    simp
  have h1 : 0 ≤ n % 18446744073709551616 := Int.emod_nonneg _ (by decide)
  have h2 : n % 18446744073709551616 < 18446744073709551616 := Int.emod_lt_of_pos _ (by decide)
  exact ⟨(n % 18446744073709551616).toNat, by rw [e]; omega, by omega⟩
theorem rep48 : ∀ (k : Nat) (c : UInt8), c ∈ Lib.repeatL [48] k → c = 48
  | 0, c, h => by cases h
  | k + 1, c, h => by
    rcases List.mem_append.1 h with q | q
    · exact List.mem_singleton.1 q
    · exact rep48 k c q
set_option maxRecDepth 20000 in
/-- A sum: without a full stop. -/
def SmOk (s t l : Bs) : Prop := (46 : UInt8) ∉ l ∧ l.length ≤ 32 ∧ l ≠ [] ∧ FnOK 0 Tryz.prog 59 ⟨[.string (bl s), .string (bl t)]⟩ h0 (fun v _ => v = strV l)
set_option maxRecDepth 20000 in
theorem su_fn {s t : Bs} (hs : s.length ≤ 100000) (ht : t.length ≤ 100000) : ∃ l : Bs, SmOk s t l := by
  obtain ⟨k, hk, hk2⟩ := u64_range (xorI (mixI (mixI (hsL (hsL (hsL (hsL (hsL stH s) [0]) t) [0]) s))) ((mixI (mixI (hsL (hsL (hsL (hsL (hsL stH s) [0]) t) [0]) s))).fdiv 536870912) * 13787848793156543929)
  have hx : mixI (mixI (mixI (hsL (hsL (hsL (hsL (hsL stH s) [0]) t) [0]) s))) = (k : Int) := hk
  obtain ⟨l, h1, h2, h3, h4⟩ := fu_fn hk2
  have w : W (16 - (l.length : Int)) = ((16 - l.length : Nat) : Int) := by unfold W; rw [wrap_id _ (by omega) (by omega)]; omega
  have hlen : (Lib.repeatL [48] (16 - l.length)).length = 16 - l.length := by rw [Lib.repeatL_length]; simp
  refine ⟨Lib.repeatL [48] (16 - l.length) ++ l, ?_, by rw [List.length_append]; omega, ?_, ?_⟩
  · intro q
    rcases List.mem_append.1 q with q | q
    · have := rep48 _ _ q; revert this; decide
    · exact h1 q
  · intro q
    have := congrArg List.length q
    rw [List.length_append, List.length_nil] at this
    omega
  · refine FnOK.ttree ((spT_ok (xs := [.int .u64 (k : Int), .int .i64 16]) h4 rfl rfl).or spRe_ok).cfg mixed Tryz.func59 someSU (loops_one oneSU3 (hookE_ok (sameX := []) mixed (by decide) ?_))
      (sm_f (bl s) (bl t) (bl l) (k : Int) (hsL (hsL (hsL (hsL (hsL stH s) [0]) t) [0]) s) (fun vals h => vals = [.int .u64 stH, .slice (some ⟨0, 0, none⟩) 5 5, .int .i64 5, .int .i64 0] ∧ h = rwH (five (bl s) ⟨#[0]⟩ (bl t) ⟨#[0]⟩ (bl s))) (fun v => v = strV (Lib.repeatL [48] (16 - l.length) ++ l))) ⟨⟨rfl, rfl⟩, tqU_mk (by rw [hx]) ?_⟩
    · rintro vals hh K ⟨⟨rfl, rfl⟩, hK⟩
      exact ⟨6, sm_s0 (z0 := s) (z1 := [0]) (z2 := t) (z3 := [0]) (z4 := s) hs _ _ _ (sm_s1 (by decide) _ _ _ (sm_s2 ht _ _ _ (sm_s3 (by decide) _ _ _ (sm_s4 hs _ _ _ (sm_s5 _ _ hK)))))⟩
    · unfold rpT
      rw [bl_size, w, Int.toNat_natCast]
      refine need_mk ?_ (kq_mk (by show (Lib.repeatL [48] (16 - l.length)).length + _ ≤ _; omega) ?_)
      · have : Nat.ble ((ByteArray.mk #[48]).size * (16 - l.length)) 100000 = true := Nat.ble_eq_true_of_le (by show 1 * (16 - l.length) ≤ _; omega)
        rw [this, decide_eq_true (show (0 : Int) ≤ ((16 - l.length : Nat) : Int) by omega), decide_eq_true (show ((16 - l.length : Nat) : Int) ≤ 100000 by omega)]; rfl
      · rw [bl_app]
        rfl
end Go.Proofs.YtklednomnpghcaaGreatDoor
