/-
  Bytes: told calls; numbers as text, by closed runs.
-/
import Derived.Test.YtjphemllikflpaaGreatDoorByJ
import Derived.Test.YtjphemllikflpaaGreatDoorByZ
namespace Go.Proofs.YtjphemllikflpaaGreatDoor
open Go.Ev Go.RowKit RecLaw PathLaw QueryLaw BytesLaw

/-! told calls -/
open Classical in
noncomputable def tq (a b : List Value) : Bool := @decide (a = b) (Classical.propDecidable _)
open Classical in
theorem tq_eq {a b : List Value} (h : a = b) : tq a b = true := by unfold tq; exact @decide_eq_true _ (Classical.propDecidable _) h
open Classical in
theorem tq_iff {a b : List Value} (h : tq a b = true) : a = b := by unfold tq at h; exact @of_decide_eq_true _ (Classical.propDecidable _) h
noncomputable def spT (n : FuncId) (xs : List Value) (r : Value) (f : FuncId) (args : Array Value) (h : AH) : Option (Bool × Value × AH) :=
  cond (Nat.beq f n) (some (tq args.toList xs, r, h)) none
theorem spT_ok {n : FuncId} {xs : List Value} {r : Value} (hF : FnOK 0 Tryz.prog n ⟨xs⟩ h0 (fun v _ => v = r)) (ha : xs.all p2 = true) (hr : p3 r = true) : SpOK (spT n xs r) := by
  intro f args h v h' hs
  unfold spT at hs
  obtain ⟨hf, hs2⟩ := cond_some hs
  clear hs
  have := Nat.eq_of_beq_eq_true hf
  subst this
  injection hs2 with hs
  injection hs with hb hs
  injection hs with hv hh
  subst hv hh
  obtain ⟨l⟩ := args
  have e : l = xs := tq_iff hb
  subst e
  exact ⟨FnOK.pure hF ha hr h, Nat.le_refl _⟩

/-! Words -/
noncomputable def SKw (F : ByteArray) (m t v : ByteArray) : SC := ⟨idn, spT 112 [.string F, .string ⟨#[32]⟩, .int .i64 0, .int .i64 (-1)] (fz ⟨[.string m, .string t, .string v]⟩), false, false⟩
theorem kwe (F m t v : ByteArray) (Q : Value → Prop) : ffn Tryz.prog (SKw F m t v) [] 900 [] Tryz.f38 [.string F] h0 (fun v _ => Q v) =
    bif tq [.string F, .string ⟨#[32]⟩, .int .i64 0, .int .i64 (-1)] [.string F, .string ⟨#[32]⟩, .int .i64 0, .int .i64 (-1)] then
      bif (ByteArray.mk #[]).toList == m.toList then Q (.tuple ⟨[fz ⟨[.string m, .string t, .string v]⟩, .bool false]⟩) else bif (ByteArray.mk #[]).toList == t.toList then Q (.tuple ⟨[fz ⟨[.string m, .string t, .string v]⟩, .bool false]⟩) else bif (ByteArray.mk #[]).toList == v.toList then Q (.tuple ⟨[fz ⟨[.string m, .string t, .string v]⟩, .bool false]⟩) else Q (.tuple ⟨[fz ⟨[.string m, .string t, .string v]⟩, .bool true]⟩)
    else False := by kernel_rfl
theorem someKW : Tryz.f38.body.isSome = true := by kernel_rfl
theorem ne_e {x : Bs} (h : x ≠ []) : ((ByteArray.mk #[]).toList == (bl x).toList) = false := by
  rw [show (ByteArray.mk #[]) = bl [] from rfl, bl_beq, bl_list]
  cases x with
  | nil => exact absurd rfl h
  | cons a l => rfl
theorem kw_fn {m t v : Bs} (h1 : (32 : UInt8) ∉ m) (h2 : (32 : UInt8) ∉ t) (h3 : (32 : UInt8) ∉ v) (n1 : m ≠ []) (n2 : t ≠ []) (n3 : v ≠ []) (hl : (m ++ 32 :: (t ++ 32 :: v)).length ≤ 1000) :
    FnOK 0 Tryz.prog 38 ⟨[.string (bl (m ++ 32 :: (t ++ 32 :: v)))]⟩ h0 (fun u _ => u = .tuple ⟨[fz ⟨[strV m, strV t, strV v]⟩, .bool true]⟩) := by
  have hs : spl 32 (m ++ 32 :: (t ++ 32 :: v)) = [m, t, v] := spl_body 32 _ m [t, v] h1 (by intro p hp; simp only [List.mem_cons, List.not_mem_nil, or_false] at hp; rcases hp with rfl | rfl; exact h2; exact h3) (by simp [body, tail])
  have hg := sp_fn 32 (m ++ 32 :: (t ++ 32 :: v)) hl
  rw [hs] at hg
  exact FnOK.ftree (spT_ok (n := 112) (xs := [.string (bl (m ++ 32 :: (t ++ 32 :: v))), .string ⟨#[32]⟩, .int .i64 0, .int .i64 (-1)]) (r := fz ⟨[strV m, strV t, strV v]⟩) hg rfl rfl).cfg mixed Tryz.func38 someKW (kwe (bl (m ++ 32 :: (t ++ 32 :: v))) (bl m) (bl t) (bl v) (fun u => u = .tuple ⟨[fz ⟨[strV m, strV t, strV v]⟩, .bool true]⟩))
    (need_mk (tq_eq rfl) (pick_f (ne_e n1) (pick_f (ne_e n2) (pick_f (ne_e n3) rfl))))

/-! numbers as text -/
def dcL : List (Nat × Bs) := [(0, [48]), (1, [49]), (5, [53]), (80, [56, 48]), (200, [50, 48, 48]), (204, [50, 48, 52]), (304, [51, 48, 52]), (404, [52, 48, 52]), (500, [53, 48, 48]), (503, [53, 48, 51])]
def lnL : List (Nat × Bs) := [(0, [48]), (1, [49]), (5, [53]), (80, [56, 48])]
def stL : List (Nat × Bs) := [(200, [72, 84, 84, 80, 47, 49, 46, 49, 32, 50, 48, 48, 32, 79, 75]), (204, [72, 84, 84, 80, 47, 49, 46, 49, 32, 50, 48, 52, 32, 45]), (304, [72, 84, 84, 80, 47, 49, 46, 49, 32, 51, 48, 52, 32, 45]), (404, [72, 84, 84, 80, 47, 49, 46, 49, 32, 52, 48, 52, 32, 45]), (500, [72, 84, 84, 80, 47, 49, 46, 49, 32, 53, 48, 48, 32, 45]), (503, [72, 84, 84, 80, 47, 49, 46, 49, 32, 53, 48, 51, 32, 45])]
noncomputable def SNu : SC := ⟨idn, spOr spTs (spOr spIg (spOr spCn spNg)), false, false⟩
theorem SNu_ok : SNu.cfg.OK Tryz.prog := (spTs_ok.or (spIg_ok.or (spCn_ok.or spNg_ok))).cfg
theorem someIT : Tryz.f36.body.isSome = true := by kernel_rfl
theorem someILN : Tryz.f114.body.isSome = true := by kernel_rfl
theorem someKS : Tryz.f107.body.isSome = true := by kernel_rfl
theorem someSTO : Tryz.f42.body.isSome = true := by kernel_rfl
noncomputable def runIt (t : Nat × Bs) : Bool := isSN (bl t.2) (arun Tryz.prog SNu.cfg 3000 Tryz.f36 [.int .i64 (t.1 : Int)] h0)
noncomputable def runLn (t : Nat × Bs) : Bool := isBo true (arun Tryz.prog SNu.cfg 3000 Tryz.f114 [.string (bl t.2)] h0)
noncomputable def runSm (t : Nat × Bs) : Bool := isIB (t.1 : Int) (arun Tryz.prog SNu.cfg 3000 Tryz.f107 [.string (bl t.2)] h0)
noncomputable def runSt (t : Nat × Bs) : Bool := isIB (t.1 : Int) (arun Tryz.prog SNu.cfg 3000 Tryz.f42 [.string (bl t.2)] h0)
theorem it0 : runIt (0, [48]) = true := by kernel_rfl
theorem it1 : runIt (1, [49]) = true := by kernel_rfl
theorem it2 : runIt (5, [53]) = true := by kernel_rfl
theorem it3 : runIt (80, [56, 48]) = true := by kernel_rfl
theorem it4 : runIt (200, [50, 48, 48]) = true := by kernel_rfl
theorem it5 : runIt (204, [50, 48, 52]) = true := by kernel_rfl
theorem it6 : runIt (304, [51, 48, 52]) = true := by kernel_rfl
theorem it7 : runIt (404, [52, 48, 52]) = true := by kernel_rfl
theorem it8 : runIt (500, [53, 48, 48]) = true := by kernel_rfl
theorem it9 : runIt (503, [53, 48, 51]) = true := by kernel_rfl
theorem ln0 : runLn (0, [48]) = true := by kernel_rfl
theorem sm0 : runSm (0, [48]) = true := by kernel_rfl
theorem ln1 : runLn (1, [49]) = true := by kernel_rfl
theorem sm1 : runSm (1, [49]) = true := by kernel_rfl
theorem ln2 : runLn (5, [53]) = true := by kernel_rfl
theorem sm2 : runSm (5, [53]) = true := by kernel_rfl
theorem ln3 : runLn (80, [56, 48]) = true := by kernel_rfl
theorem sm3 : runSm (80, [56, 48]) = true := by kernel_rfl
theorem st0 : runSt (200, [72, 84, 84, 80, 47, 49, 46, 49, 32, 50, 48, 48, 32, 79, 75]) = true := by kernel_rfl
theorem st1 : runSt (204, [72, 84, 84, 80, 47, 49, 46, 49, 32, 50, 48, 52, 32, 45]) = true := by kernel_rfl
theorem st2 : runSt (304, [72, 84, 84, 80, 47, 49, 46, 49, 32, 51, 48, 52, 32, 45]) = true := by kernel_rfl
theorem st3 : runSt (404, [72, 84, 84, 80, 47, 49, 46, 49, 32, 52, 48, 52, 32, 45]) = true := by kernel_rfl
theorem st4 : runSt (500, [72, 84, 84, 80, 47, 49, 46, 49, 32, 53, 48, 48, 32, 45]) = true := by kernel_rfl
theorem st5 : runSt (503, [72, 84, 84, 80, 47, 49, 46, 49, 32, 53, 48, 51, 32, 45]) = true := by kernel_rfl
theorem it_runs : ∀ t ∈ dcL, runIt t = true := by
  intro t ht
  simp only [dcL, List.mem_cons, List.not_mem_nil, or_false] at ht
  rcases ht with rfl | rfl | rfl | rfl | rfl | rfl | rfl | rfl | rfl | rfl
  · exact it0
  · exact it1
  · exact it2
  · exact it3
  · exact it4
  · exact it5
  · exact it6
  · exact it7
  · exact it8
  · exact it9
theorem ln_runs : ∀ t ∈ lnL, runLn t = true := by
  intro t ht
  simp only [lnL, List.mem_cons, List.not_mem_nil, or_false] at ht
  rcases ht with rfl | rfl | rfl | rfl
  · exact ln0
  · exact ln1
  · exact ln2
  · exact ln3
theorem sm_runs : ∀ t ∈ lnL, runSm t = true := by
  intro t ht
  simp only [lnL, List.mem_cons, List.not_mem_nil, or_false] at ht
  rcases ht with rfl | rfl | rfl | rfl
  · exact sm0
  · exact sm1
  · exact sm2
  · exact sm3
theorem st_runs : ∀ t ∈ stL, runSt t = true := by
  intro t ht
  simp only [stL, List.mem_cons, List.not_mem_nil, or_false] at ht
  rcases ht with rfl | rfl | rfl | rfl | rfl | rfl
  · exact st0
  · exact st1
  · exact st2
  · exact st3
  · exact st4
  · exact st5
theorem it_fn {t : Nat × Bs} (h : t ∈ dcL) : FnOK 0 Tryz.prog 36 ⟨[.int .i64 (t.1 : Int)]⟩ h0 (fun u _ => u = strV t.2) := by
  obtain ⟨h', hr⟩ := isSN_eq (it_runs t h)
  exact (arun_ok SNu_ok mixed Tryz.func36 someIT hr).mono fun _ _ q => q.1
theorem ln_fn {t : Nat × Bs} (h : t ∈ lnL) : FnOK 0 Tryz.prog 114 ⟨[strV t.2]⟩ h0 (fun u _ => u = .bool true) := by
  obtain ⟨h', hr⟩ := isBo_eq (ln_runs t h)
  exact (arun_ok SNu_ok mixed Tryz.func114 someILN hr).mono fun _ _ q => q.1
theorem sm_fn {t : Nat × Bs} (h : t ∈ lnL) : FnOK 0 Tryz.prog 107 ⟨[strV t.2]⟩ h0 (fun u _ => u = .tuple ⟨[.int .i64 (t.1 : Int), .bool true]⟩) := by
  obtain ⟨h', hr⟩ := isIB_eq (sm_runs t h)
  exact (arun_ok SNu_ok mixed Tryz.func107 someKS hr).mono fun _ _ q => q.1
theorem st_fn {t : Nat × Bs} (h : t ∈ stL) : FnOK 0 Tryz.prog 42 ⟨[strV t.2]⟩ h0 (fun u _ => u = .tuple ⟨[.int .i64 (t.1 : Int), .bool true]⟩) := by
  obtain ⟨h', hr⟩ := isIB_eq (st_runs t h)
  exact (arun_ok SNu_ok mixed Tryz.func42 someSTO hr).mono fun _ _ q => q.1
end Go.Proofs.YtjphemllikflpaaGreatDoor
