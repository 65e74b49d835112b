/-
  Requests: bytes of tokens.
-/
import Derived.Test.YtjphemllikflpaaGreatDoorByH
namespace Go.Proofs.YtjphemllikflpaaGreatDoor
open Go.Ev Go.RowKit RecLaw PathLaw QueryLaw

theorem someTB : Tryz.f105.body.isSome = true := by kernel_rfl
theorem tb_runs : ((List.range 256).all fun n => isBo (tokC (UInt8.ofNat n)) (arun Tryz.prog ST0.cfg 1000 Tryz.f105 [.int .u8 (n : Int)] h0)) = true := by kernel_rfl
theorem tb_fn {n : Int} (h0' : 0 ≤ n) (h1 : n < 256) : FnOK 0 Tryz.prog 105 ⟨[.int .u8 n]⟩ h0 (fun u _ => u = .bool (tokC (byI n))) := by
  obtain ⟨q1, q2⟩ := n_u8 h0' h1
  have := List.all_eq_true.1 tb_runs _ q1
  rw [q2] at this
  obtain ⟨h', hr⟩ := isBo_eq this
  exact (arun_ok ST0_ok mixed Tryz.func105 someTB hr).mono fun _ _ q => q.1
noncomputable def spTb (f : FuncId) (args : Array Value) (h : AH) : Option (Bool × Value × AH) :=
  cond (Nat.beq f 105) (match args with
    | ⟨[.int .u8 n]⟩ => some (decide (0 ≤ n) && decide (n < 256), .bool (tokC (byI n)), h)
    | _ => none) none
theorem spTb_ok : SpOK spTb := by
  intro f args h v h' hs
  unfold spTb at hs
  obtain ⟨hf, hs2⟩ := cond_some hs
  clear hs
  have := Nat.eq_of_beq_eq_true hf
  subst this
  split at hs2
  · injection hs2 with hs
    injection hs with hb hs
    injection hs with hv hh
    subst hv hh
    rename_i n
    simp only [Bool.and_eq_true, decide_eq_true_eq] at hb
    exact ⟨FnOK.pure (tb_fn hb.1 hb.2) rfl rfl h, Nat.le_refl _⟩
  · cases hs2
end Go.Proofs.YtjphemllikflpaaGreatDoor
