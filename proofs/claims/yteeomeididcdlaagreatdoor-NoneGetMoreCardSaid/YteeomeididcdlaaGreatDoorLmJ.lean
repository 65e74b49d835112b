/-
  Limits: what Room says.
-/
import Derived.Test.YteeomeididcdlaaGreatDoorLmI
namespace Go.Proofs.YteeomeididcdlaaGreatDoor
open Go.Ev Go.RowKit LimLaw

def rmV (n : Int) : Value := .tuple ⟨[.int .i64 n, .int .i64 0]⟩
noncomputable def rmT (c lo m p b : Int) (Q : Value → Prop) (X : Prop) : Prop :=
  bif okLB keyB c m p b && true then bif decide (lo < 1) then Q (.tuple ⟨[.int .i64 0, .int .i64 1]⟩) else bif decide (lo > 100000) then Q (.tuple ⟨[.int .i64 0, .int .i64 1]⟩) else X else False
theorem rm1 (lo m p b : Int) (Q : Value → Prop) : ffn Tryz.prog SRp [] 3000 [] Tryz.f17 [lmV keyB 1 m p b, .int .i64 lo] h0 (fun v _ => Q v) = rmT 1 lo m p b Q (upT (IntKind.i64.wrap (lo - 1)) p fun u => Q (rmV (IntKind.i64.wrap (m * IntKind.i64.wrap (1 + u))))) := by kernel_rfl
theorem rm2 (lo m p b : Int) (Q : Value → Prop) : ffn Tryz.prog SRp [] 3000 [] Tryz.f17 [lmV keyB 2 m p b, .int .i64 lo] h0 (fun v _ => Q v) = rmT 2 lo m p b Q (upT lo p fun u => Q (rmV (IntKind.i64.wrap (m * u)))) := by kernel_rfl
def rmH (m p b a l : Int) : AH := ⟨1, 1, [(0, .cells ⟨lmC keyB 3 m p b ++ [.int .i64 a, .int .i64 l]⟩ 95 (0, 0))]⟩
theorem rmr (m p b a l s lo i : Int) (B : List Value → AH → Prop) (Q : AExit → List Value → AH → Prop) :
    once 0 Tryz.prog SRp [] noHooks 900 68 [7, 8, 52, 53] [] [8] [] (oneLoop (codeOf Tryz.f17) 16) [.pointer (some ⟨0, 0, none⟩), .int .i64 s, .int .i64 lo, .int .i64 i] (rmH m p b a l) B Q =
      bif decide (i < lo) then nwT m p b a l i fun x => bif !decide (p = 0) then nwT m p b a l i fun y =>
        B [.pointer (some ⟨0, 0, none⟩), .int .i64 (IntKind.i64.wrap (s + IntKind.i64.wrap (x.tdiv p))), .int .i64 lo, .int .i64 (IntKind.i64.wrap (i + 1))] (rmH m p b i (IntKind.i64.wrap (y - IntKind.i64.wrap (IntKind.i64.wrap (x.tdiv p) * p)))) else False
      else Q (.exit 1) [.int .i64 s] h0 := by kernel_rfl
theorem rm3 (lo m p b r : Int) (C : List Value → AH → Prop) (Q : Value → Prop) : tfn Tryz.prog SRp [] (hook1 16 (hookLS 0 68 [7, 8, 52, 53] [] [8] (fun vals h K => C vals h ∧ K (.exit 1) [.int .i64 r] h0))) 3000 [] Tryz.f17 [lmV keyB 3 m p b, .int .i64 lo] h0 (fun v _ => Q v) =
    rmT 3 lo m p b Q (C [.pointer (some ⟨0, 0, none⟩), .int .i64 0, .int .i64 lo, .int .i64 0] (rmH m p b 0 (IntKind.i64.wrap (b * p))) ∧ Q (rmV r)) := by kernel_rfl
theorem oneRO : (loopAt (codeOf Tryz.f17) 16).length = 1 := by kernel_rfl
theorem someRO : Tryz.f17.body.isSome = true := by kernel_rfl
def okLo (lo : Int) : Prop := lo = 1 ∨ lo = 5 ∨ lo = 20 ∨ lo = 60 ∨ lo = 200
theorem okLo_in {lo : Int} (h : okLo lo) : 1 ≤ lo ∧ lo ≤ 200 := by rcases h with rfl | rfl | rfl | rfl | rfl <;> omega
theorem rmT_mk {c lo m p b : Int} (hL : okL c m p b) (hl : okLo lo) {Q : Value → Prop} {X : Prop} (x : X) : rmT c lo m p b Q X := by
  have := okLo_in hl
  exact need_mk (by rw [okLB_iff.2 ⟨rfl, hL⟩]; rfl) (pick_f (decide_eq_false (by omega)) (pick_f (decide_eq_false (by omega)) x))
theorem up_p {p a : Int} (hp : okPer p) (h0 : 0 ≤ a) (h1 : a ≤ 1000) : 0 ≤ up a p ∧ up a p ≤ 1000 := by
  unfold up
  rcases hp with rfl | rfl | rfl | rfl | rfl <;> split <;> omega
theorem upP_mk {a p : Int} (hp : okPer p) (h0 : 0 ≤ a) (h1 : a ≤ 1000) {K : Int → Prop} (hK : K (up a p)) : upT a p K := by
  have e1 : a.tdiv p = a / p := Int.tdiv_eq_ediv_of_nonneg h0
  have e2 : a.tmod p = a % p := Int.tmod_eq_emod_of_nonneg h0
  have hb0 := okPer_in hp
  have hr : 0 ≤ a / p ∧ a / p ≤ a := by rcases hp with rfl | rfl | rfl | rfl | rfl <;> omega
  refine need_mk (by simp; omega) (need_mk (by simp; omega) ?_)
  rw [e1, e2, wrap_id (a / p) (by omega) (by omega), wrap_id (a / p + 1) (by omega) (by omega)]
  unfold up at hK
  by_cases q : a % p = 0
  · rw [if_pos q] at hK
    exact pick_f (by rw [q]; rfl) hK
  · rw [if_neg q] at hK
    exact pick_t (by simpa using q) hK
theorem mul_in {m u : Int} (hm : okM m) (h0 : 0 ≤ u) (h1 : u ≤ 2000) : 0 ≤ m * u ∧ m * u ≤ 10000 := by rcases hm with rfl | rfl | rfl | rfl <;> omega
theorem rm_loop {m p b lo : Int} (hm : okM m) (hp : okPer p) (hb : okBu b) {N : Nat} (hN : lo = (N : Int)) (hl : N ≤ 200) (K : AExit → List Value → AH → Prop) (hK : K (.exit 1) [.int .i64 (sim m p (b * p) N).2] h0) :
    ∀ (r i : Nat) (a l : Int), i + r = N → 0 ≤ l → l ≤ b * p → 0 ≤ a → a ≤ i → nowB m (b * p) a l i = (sim m p (b * p) i).1 →
      iter 0 Tryz.prog SRp [] noHooks 900 68 [7, 8, 52, 53] [] [8] [] (oneLoop (codeOf Tryz.f17) 16) (r + 1) [.pointer (some ⟨0, 0, none⟩), .int .i64 (sim m p (b * p) i).2, .int .i64 lo, .int .i64 (i : Int)] (rmH m p b a l) K := by
  have hf := full_in hp hb
  have hp5 := okPer_in hp
  have hS : ∀ n : Nat, n ≤ 200 → (sim m p (b * p) n).2 ≤ 500 * n := by
    intro n
    induction n with
    | zero => intro _; exact Int.le_refl _
    | succ n ih =>
      intro h
      have := ih (by omega)
      obtain ⟨k1, k2, k3⟩ := sim_in hm hp (show 0 ≤ b * p by omega) n
      have hd := (div_in hp k1).2
      have e : (sim m p (b * p) (n + 1)).2 = (sim m p (b * p) n).2 + (sim m p (b * p) n).1 / p := rfl
      rw [e]; omega
  intro r
  induction r with
  | zero =>
    intro i a l h1 _ _ _ _ _
    have : i = N := by omega
    subst this
    exact (rmr _ _ _ _ _ _ _ _ _ K).mpr (pick_f (by simp; omega) hK)
  | succ r ih =>
    intro i a l h1 h2 h3 h4 h5 h6
    obtain ⟨k1, k2, k3⟩ := sim_in hm hp (show 0 ≤ b * p by omega) i
    have hSi := hS i (by omega)
    obtain ⟨e1, e2, e3⟩ := div_in hp k1
    have hmul : (sim m p (b * p) i).1 / p * p ≤ (sim m p (b * p) i).1 ∧ 0 ≤ (sim m p (b * p) i).1 / p * p := by
      generalize (sim m p (b * p) i).1 = x at *
      rcases hp with rfl | rfl | rfl | rfl | rfl <;> omega
    refine (rmr _ _ _ _ _ _ _ _ _ K).mpr (pick_t (decide_eq_true (by omega)) ?_)
    refine nwT_mk hm hp hb h2 h3 h4 h5 (by omega) ?_
    rw [h6]
    refine need_mk (by simp; omega) (nwT_mk hm hp hb h2 h3 h4 h5 (by omega) ?_)
    rw [h6, e1, wrap_id ((sim m p (b * p) i).1 / p) (by omega) (by omega), wrap_id ((sim m p (b * p) i).2 + _) (by omega) (by omega), wrap_id ((sim m p (b * p) i).1 / p * p) (by omega) (by omega), wrap_id ((sim m p (b * p) i).1 - _) (by omega) (by omega), wrap1 (by omega)]
    have hs : (sim m p (b * p) (i + 1)).2 = (sim m p (b * p) i).2 + (sim m p (b * p) i).1 / p := rfl
    have hs1 : (sim m p (b * p) (i + 1)).1 = min (b * p) ((sim m p (b * p) i).1 - p * ((sim m p (b * p) i).1 / p) + m) := rfl
    rw [← hs]
    refine ih (i + 1) _ _ (by omega) (by omega) (by omega) (by omega) (by omega) ?_
    rw [nowB_min hm (by omega) (by omega), hs1, Int.mul_comm p]
    congr 1
    have : ((i + 1 : Nat) : Int) - (i : Int) = 1 := by omega
    rw [this, Int.mul_one]
theorem rm_fn {c lo m p b : Int} (hL : okL c m p b) (hl : okLo lo) (h4 : c ≠ 4) : ∃ R : Int, ((c = 1 → R = roomW m p lo) ∧ (c = 2 → R = roomS m p lo) ∧ (c = 3 → R = (sim m p (b * p) lo.toNat).2)) ∧
    FnOK 0 Tryz.prog 17 ⟨[lmV keyB c m p b, .int .i64 lo]⟩ h0 (fun v _ => v = rmV R) := by
  have hL2 := hL
  have hlo := okLo_in hl
  obtain ⟨hm, hk⟩ := hL
  rcases hk with ⟨rfl, hp, rfl⟩ | ⟨rfl, hp, rfl⟩ | ⟨rfl, hp, hb⟩ | ⟨rfl, rfl, rfl⟩
  · have hu := up_p (a := lo - 1) hp (by omega) (by omega)
    have hmu := mul_in (u := 1 + up (lo - 1) p) hm (by omega) (by omega)
    refine ⟨roomW m p lo, ⟨fun _ => rfl, fun h => (by omega), fun h => (by omega)⟩, FnOK.ftree SRp_ok mixed Tryz.func17 someRO (rm1 lo m p 0 (fun v => v = rmV (roomW m p lo))) (rmT_mk hL2 hl ?_)⟩
    rw [wrap_id (lo - 1) (by omega) (by omega)]
    refine upP_mk hp (by omega) (by omega) ?_
    rw [wrap_id (1 + _) (by omega) (by omega), wrap_id _ (by omega) (by omega)]
    rfl
  · have hu := up_p (a := lo) hp (by omega) (by omega)
    have hmu := mul_in (u := up lo p) hm (by omega) (by omega)
    refine ⟨roomS m p lo, ⟨fun h => (by omega), fun _ => rfl, fun h => (by omega)⟩, FnOK.ftree SRp_ok mixed Tryz.func17 someRO (rm2 lo m p 0 (fun v => v = rmV (roomS m p lo))) (rmT_mk hL2 hl ?_)⟩
    refine upP_mk hp (by omega) (by omega) ?_
    rw [wrap_id _ (by omega) (by omega)]
    rfl
  · have hf := full_in hp hb
    have hN : lo = (lo.toNat : Int) := by omega
    have hsp : LSpec 0 Tryz.prog 68 (oneLoop (codeOf Tryz.f17) 16) (hookLS 0 68 [7, 8, 52, 53] [] [8] (fun vals h K => (vals = [.pointer (some ⟨0, 0, none⟩), .int .i64 0, .int .i64 lo, .int .i64 0] ∧ h = rmH m p b 0 (b * p)) ∧ K (.exit 1) [.int .i64 (sim m p (b * p) lo.toNat).2] h0)) := by
      refine hook_ok (G := []) (L := noHooks) (f := 900) (sameX := []) SRp_ok mixed (by decide) (loops_none _ _ _ _) ?_
      rintro vals h K ⟨⟨rfl, rfl⟩, hK⟩
      exact ⟨_, rm_loop hm hp hb hN (by omega) K hK lo.toNat 0 0 (b * p) (by omega) (by omega) (Int.le_refl _) (Int.le_refl _) (Int.le_refl _) (nowB_full hm (Int.le_refl _) (by omega))⟩
    refine ⟨_, ⟨fun h => (by omega), fun h => (by omega), fun _ => rfl⟩, FnOK.ttree SRp_ok mixed Tryz.func17 someRO (loops_one oneRO hsp) (rm3 lo m p b (sim m p (b * p) lo.toNat).2 _ (fun v => v = rmV (sim m p (b * p) lo.toNat).2)) (rmT_mk hL2 hl ⟨⟨rfl, ?_⟩, rfl⟩)⟩
    rw [wrap_id (b * p) (by omega) (by omega)]
  · exact absurd rfl h4
end Go.Proofs.YteeomeididcdlaaGreatDoor
