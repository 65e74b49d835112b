/-
  Paths: CheckPath, stepText, PathText, slices.Equal.
-/
import Derived.Test.YtmclppkligkooaaGreatDoorLvE
namespace Go.Proofs.YtmclppkligkooaaGreatDoor
open Go.Ev Go.RowKit
set_option maxRecDepth 20000

theorem stc {s : ValLaw.Stp} (h : s ∈ ValLaw.stepsU) : (∃ w ∈ ValLaw.names6, s = (true, w, 0)) ∨ (∃ a : Int, 0 ≤ a ∧ a ≤ 2 ∧ s = (false, [], a)) := by
  simp only [ValLaw.stepsU, List.mem_cons, List.not_mem_nil, or_false] at h
  rcases h with rfl | rfl | rfl | rfl | rfl | rfl | rfl | rfl | rfl
  · exact .inl ⟨_, (by decide), rfl⟩
  · exact .inl ⟨_, (by decide), rfl⟩
  · exact .inl ⟨_, (by decide), rfl⟩
  · exact .inl ⟨_, (by decide), rfl⟩
  · exact .inl ⟨_, (by decide), rfl⟩
  · exact .inl ⟨_, (by decide), rfl⟩
  · exact .inr ⟨0, by omega, by omega, rfl⟩
  · exact .inr ⟨1, by omega, by omega, rfl⟩
  · exact .inr ⟨2, by omega, by omega, rfl⟩
/-! CheckPath -/
noncomputable def okN (s : ByteArray) : Bool := ValLaw.names6.any fun w => eqV (.string s) (.string (bl w))
theorem okN_mk {w : List UInt8} (h : w ∈ ValLaw.names6) : okN (bl w) = true := List.any_eq_true.2 ⟨w, h, eqV_self _⟩
theorem okN_e : okN ⟨#[]⟩ = true := okN_mk (w := []) (by decide)
theorem szN {w : List UInt8} (h : w ∈ ValLaw.names6) : decide (((bl w).size : Int) > 100) = false := by
  have key : ∀ w ∈ ValLaw.names6, (bl w).size ≤ 100 := by decide
  have := key w h
  exact decide_eq_false (by omega)
noncomputable def spVn (f : FuncId) (args : Array Value) (h : AH) : Option (Bool × Value × AH) :=
  cond (Nat.beq f 34) (match args with
    | ⟨[.string s]⟩ => some (okN s, .bool true, h)
    | _ => none) none
noncomputable def SVn : SC := ⟨idn, spVn, false, false⟩
theorem spVn_ok : SpOK spVn := by
  intro f args h v h' hs
  unfold spVn at hs
  obtain ⟨hf, hs2⟩ := cond_some hs
  clear hs
  have := Nat.eq_of_beq_eq_true hf
  subst this
  split at hs2
  · injection hs2 with hs
    injection hs with hb hs
    injection hs with hv hh
    subst hv hh
    obtain ⟨w, hw, h1⟩ := List.any_eq_true.1 hb
    have h1 := eqV_eq h1
    rw [h1]
    have key : ∀ w ∈ ValLaw.names6, w ∈ ValLaw.namesU := by decide
    exact ⟨vs_names w (key w hw) h, Nat.le_refl _⟩
  · cases hs2
theorem someCH : Tryz.f17.body.isSome = true := by kernel_rfl
noncomputable def SPe : SC := ⟨idn, fun _ _ _ => none, false, false⟩
theorem SPe_ok : SPe.cfg.OK Tryz.prog := none_ok.cfg
theorem ck_nil (c : Nat) (Q : Value → Prop) : ffn Tryz.prog SPe [] 900 [] Tryz.f17 [.slice none 0 c] h0 (fun v _ => Q v) = Q (.int .i64 0) := by kernel_rfl
theorem ck_ez (Q : Value → Prop) : tfn Tryz.prog SPe [] (ghost1 0 (unezG 47 0)) 900 [] Tryz.f17 [ez] h0 (fun v _ => Q v) = Q (.int .i64 0) := by kernel_rfl
theorem ck_N (s0 : ByteArray) (Q : Value → Prop) : ffn Tryz.prog SVn [] 900 [] Tryz.f17 [fz ⟨[.agg ⟨[.bool true, .string s0, .int .i64 0]⟩]⟩] h0 (fun v _ => Q v) = (bif decide ((s0.size : Int) > 100) then Q (.int .i64 2) else bif okN s0 then Q (.int .i64 0) else False) := by kernel_rfl
theorem ck_I (a0 : Int) (Q : Value → Prop) : ffn Tryz.prog SVn [] 900 [] Tryz.f17 [fz ⟨[.agg ⟨[.bool false, .string ⟨#[]⟩, .int .i64 a0]⟩]⟩] h0 (fun v _ => Q v) = (bif okN ⟨#[]⟩ then bif decide (a0 < 0) then Q (.int .i64 1) else bif decide (a0 > 5000) then Q (.int .i64 1) else Q (.int .i64 0) else False) := by kernel_rfl
theorem ck_NN (s0 : ByteArray) (s1 : ByteArray) (Q : Value → Prop) : ffn Tryz.prog SVn [] 900 [] Tryz.f17 [fz ⟨[.agg ⟨[.bool true, .string s0, .int .i64 0]⟩, .agg ⟨[.bool true, .string s1, .int .i64 0]⟩]⟩] h0 (fun v _ => Q v) = (bif decide ((s0.size : Int) > 100) then Q (.int .i64 2) else bif okN s0 then bif decide ((s1.size : Int) > 100) then Q (.int .i64 2) else bif okN s1 then Q (.int .i64 0) else False else False) := by kernel_rfl
theorem ck_NI (s0 : ByteArray) (a1 : Int) (Q : Value → Prop) : ffn Tryz.prog SVn [] 900 [] Tryz.f17 [fz ⟨[.agg ⟨[.bool true, .string s0, .int .i64 0]⟩, .agg ⟨[.bool false, .string ⟨#[]⟩, .int .i64 a1]⟩]⟩] h0 (fun v _ => Q v) = (bif decide ((s0.size : Int) > 100) then Q (.int .i64 2) else bif okN s0 then bif okN ⟨#[]⟩ then bif decide (a1 < 0) then Q (.int .i64 1) else bif decide (a1 > 5000) then Q (.int .i64 1) else Q (.int .i64 0) else False else False) := by kernel_rfl
theorem ck_IN (a0 : Int) (s1 : ByteArray) (Q : Value → Prop) : ffn Tryz.prog SVn [] 900 [] Tryz.f17 [fz ⟨[.agg ⟨[.bool false, .string ⟨#[]⟩, .int .i64 a0]⟩, .agg ⟨[.bool true, .string s1, .int .i64 0]⟩]⟩] h0 (fun v _ => Q v) = (bif okN ⟨#[]⟩ then bif decide (a0 < 0) then Q (.int .i64 1) else bif decide (a0 > 5000) then Q (.int .i64 1) else bif decide ((s1.size : Int) > 100) then Q (.int .i64 2) else bif okN s1 then Q (.int .i64 0) else False else False) := by kernel_rfl
theorem ck_II (a0 : Int) (a1 : Int) (Q : Value → Prop) : ffn Tryz.prog SVn [] 900 [] Tryz.f17 [fz ⟨[.agg ⟨[.bool false, .string ⟨#[]⟩, .int .i64 a0]⟩, .agg ⟨[.bool false, .string ⟨#[]⟩, .int .i64 a1]⟩]⟩] h0 (fun v _ => Q v) = (bif okN ⟨#[]⟩ then bif decide (a0 < 0) then Q (.int .i64 1) else bif decide (a0 > 5000) then Q (.int .i64 1) else bif okN ⟨#[]⟩ then bif decide (a1 < 0) then Q (.int .i64 1) else bif decide (a1 > 5000) then Q (.int .i64 1) else Q (.int .i64 0) else False else False) := by kernel_rfl
theorem ck_NNN (s0 : ByteArray) (s1 : ByteArray) (s2 : ByteArray) (Q : Value → Prop) : ffn Tryz.prog SVn [] 900 [] Tryz.f17 [fz ⟨[.agg ⟨[.bool true, .string s0, .int .i64 0]⟩, .agg ⟨[.bool true, .string s1, .int .i64 0]⟩, .agg ⟨[.bool true, .string s2, .int .i64 0]⟩]⟩] h0 (fun v _ => Q v) = (bif decide ((s0.size : Int) > 100) then Q (.int .i64 2) else bif okN s0 then bif decide ((s1.size : Int) > 100) then Q (.int .i64 2) else bif okN s1 then bif decide ((s2.size : Int) > 100) then Q (.int .i64 2) else bif okN s2 then Q (.int .i64 0) else False else False else False) := by kernel_rfl
theorem ck_NNI (s0 : ByteArray) (s1 : ByteArray) (a2 : Int) (Q : Value → Prop) : ffn Tryz.prog SVn [] 900 [] Tryz.f17 [fz ⟨[.agg ⟨[.bool true, .string s0, .int .i64 0]⟩, .agg ⟨[.bool true, .string s1, .int .i64 0]⟩, .agg ⟨[.bool false, .string ⟨#[]⟩, .int .i64 a2]⟩]⟩] h0 (fun v _ => Q v) = (bif decide ((s0.size : Int) > 100) then Q (.int .i64 2) else bif okN s0 then bif decide ((s1.size : Int) > 100) then Q (.int .i64 2) else bif okN s1 then bif okN ⟨#[]⟩ then bif decide (a2 < 0) then Q (.int .i64 1) else bif decide (a2 > 5000) then Q (.int .i64 1) else Q (.int .i64 0) else False else False else False) := by kernel_rfl
theorem ck_NIN (s0 : ByteArray) (a1 : Int) (s2 : ByteArray) (Q : Value → Prop) : ffn Tryz.prog SVn [] 900 [] Tryz.f17 [fz ⟨[.agg ⟨[.bool true, .string s0, .int .i64 0]⟩, .agg ⟨[.bool false, .string ⟨#[]⟩, .int .i64 a1]⟩, .agg ⟨[.bool true, .string s2, .int .i64 0]⟩]⟩] h0 (fun v _ => Q v) = (bif decide ((s0.size : Int) > 100) then Q (.int .i64 2) else bif okN s0 then bif okN ⟨#[]⟩ then bif decide (a1 < 0) then Q (.int .i64 1) else bif decide (a1 > 5000) then Q (.int .i64 1) else bif decide ((s2.size : Int) > 100) then Q (.int .i64 2) else bif okN s2 then Q (.int .i64 0) else False else False else False) := by kernel_rfl
theorem ck_NII (s0 : ByteArray) (a1 : Int) (a2 : Int) (Q : Value → Prop) : ffn Tryz.prog SVn [] 900 [] Tryz.f17 [fz ⟨[.agg ⟨[.bool true, .string s0, .int .i64 0]⟩, .agg ⟨[.bool false, .string ⟨#[]⟩, .int .i64 a1]⟩, .agg ⟨[.bool false, .string ⟨#[]⟩, .int .i64 a2]⟩]⟩] h0 (fun v _ => Q v) = (bif decide ((s0.size : Int) > 100) then Q (.int .i64 2) else bif okN s0 then bif okN ⟨#[]⟩ then bif decide (a1 < 0) then Q (.int .i64 1) else bif decide (a1 > 5000) then Q (.int .i64 1) else bif okN ⟨#[]⟩ then bif decide (a2 < 0) then Q (.int .i64 1) else bif decide (a2 > 5000) then Q (.int .i64 1) else Q (.int .i64 0) else False else False else False) := by kernel_rfl
theorem ck_INN (a0 : Int) (s1 : ByteArray) (s2 : ByteArray) (Q : Value → Prop) : ffn Tryz.prog SVn [] 900 [] Tryz.f17 [fz ⟨[.agg ⟨[.bool false, .string ⟨#[]⟩, .int .i64 a0]⟩, .agg ⟨[.bool true, .string s1, .int .i64 0]⟩, .agg ⟨[.bool true, .string s2, .int .i64 0]⟩]⟩] h0 (fun v _ => Q v) = (bif okN ⟨#[]⟩ then bif decide (a0 < 0) then Q (.int .i64 1) else bif decide (a0 > 5000) then Q (.int .i64 1) else bif decide ((s1.size : Int) > 100) then Q (.int .i64 2) else bif okN s1 then bif decide ((s2.size : Int) > 100) then Q (.int .i64 2) else bif okN s2 then Q (.int .i64 0) else False else False else False) := by kernel_rfl
theorem ck_INI (a0 : Int) (s1 : ByteArray) (a2 : Int) (Q : Value → Prop) : ffn Tryz.prog SVn [] 900 [] Tryz.f17 [fz ⟨[.agg ⟨[.bool false, .string ⟨#[]⟩, .int .i64 a0]⟩, .agg ⟨[.bool true, .string s1, .int .i64 0]⟩, .agg ⟨[.bool false, .string ⟨#[]⟩, .int .i64 a2]⟩]⟩] h0 (fun v _ => Q v) = (bif okN ⟨#[]⟩ then bif decide (a0 < 0) then Q (.int .i64 1) else bif decide (a0 > 5000) then Q (.int .i64 1) else bif decide ((s1.size : Int) > 100) then Q (.int .i64 2) else bif okN s1 then bif okN ⟨#[]⟩ then bif decide (a2 < 0) then Q (.int .i64 1) else bif decide (a2 > 5000) then Q (.int .i64 1) else Q (.int .i64 0) else False else False else False) := by kernel_rfl
theorem ck_IIN (a0 : Int) (a1 : Int) (s2 : ByteArray) (Q : Value → Prop) : ffn Tryz.prog SVn [] 900 [] Tryz.f17 [fz ⟨[.agg ⟨[.bool false, .string ⟨#[]⟩, .int .i64 a0]⟩, .agg ⟨[.bool false, .string ⟨#[]⟩, .int .i64 a1]⟩, .agg ⟨[.bool true, .string s2, .int .i64 0]⟩]⟩] h0 (fun v _ => Q v) = (bif okN ⟨#[]⟩ then bif decide (a0 < 0) then Q (.int .i64 1) else bif decide (a0 > 5000) then Q (.int .i64 1) else bif okN ⟨#[]⟩ then bif decide (a1 < 0) then Q (.int .i64 1) else bif decide (a1 > 5000) then Q (.int .i64 1) else bif decide ((s2.size : Int) > 100) then Q (.int .i64 2) else bif okN s2 then Q (.int .i64 0) else False else False else False) := by kernel_rfl
theorem ck_III (a0 : Int) (a1 : Int) (a2 : Int) (Q : Value → Prop) : ffn Tryz.prog SVn [] 900 [] Tryz.f17 [fz ⟨[.agg ⟨[.bool false, .string ⟨#[]⟩, .int .i64 a0]⟩, .agg ⟨[.bool false, .string ⟨#[]⟩, .int .i64 a1]⟩, .agg ⟨[.bool false, .string ⟨#[]⟩, .int .i64 a2]⟩]⟩] h0 (fun v _ => Q v) = (bif okN ⟨#[]⟩ then bif decide (a0 < 0) then Q (.int .i64 1) else bif decide (a0 > 5000) then Q (.int .i64 1) else bif okN ⟨#[]⟩ then bif decide (a1 < 0) then Q (.int .i64 1) else bif decide (a1 > 5000) then Q (.int .i64 1) else bif okN ⟨#[]⟩ then bif decide (a2 < 0) then Q (.int .i64 1) else bif decide (a2 > 5000) then Q (.int .i64 1) else Q (.int .i64 0) else False else False else False) := by kernel_rfl
theorem ck_f0 (p : List ValLaw.Stp) (hl : p.length = 0) : FnOK 0 Tryz.prog 17 ⟨[pathV p]⟩ h0 (fun v _ => v = .int .i64 0) := by
  obtain rfl : p = [] := List.length_eq_zero_iff.1 hl
  refine FnOK.empty (fun c => ?_) ?_
  · exact FnOK.ftree SPe_ok mixed Tryz.func17 someCH (ck_nil c (fun v => v = .int .i64 0)) rfl
  · exact FnOK.ttree SPe_ok mixed Tryz.func17 someCH (ghosts_one (by kernel_rfl) (unezG_ok _ _ _ _)) (ck_ez (fun v => v = .int .i64 0)) rfl
theorem ck_f1 (p : List ValLaw.Stp) (hl : p.length = 1) (hp : ∀ s ∈ p, s ∈ ValLaw.stepsU) : FnOK 0 Tryz.prog 17 ⟨[pathV p]⟩ h0 (fun v _ => v = .int .i64 0) := by
  match p, hl, hp with
  | [x0], _, hp =>
    have h0 := stc (hp x0 (by simp))
    rcases h0 with ⟨w0, hw0, rfl⟩ | ⟨b0, k0, l0, rfl⟩
    · exact FnOK.ftree spVn_ok.cfg mixed Tryz.func17 someCH (ck_N (bl w0) (fun v => v = .int .i64 0)) (pick_f (szN hw0) (need_mk (okN_mk hw0) rfl))
    · exact FnOK.ftree spVn_ok.cfg mixed Tryz.func17 someCH (ck_I b0 (fun v => v = .int .i64 0)) (need_mk okN_e (pick_f (decide_eq_false (by omega)) (pick_f (decide_eq_false (by omega)) rfl)))
theorem ck_f2 (p : List ValLaw.Stp) (hl : p.length = 2) (hp : ∀ s ∈ p, s ∈ ValLaw.stepsU) : FnOK 0 Tryz.prog 17 ⟨[pathV p]⟩ h0 (fun v _ => v = .int .i64 0) := by
  match p, hl, hp with
  | [x0, x1], _, hp =>
    have h0 := stc (hp x0 (by simp))
    have h1 := stc (hp x1 (by simp))
    rcases h0 with ⟨w0, hw0, rfl⟩ | ⟨b0, k0, l0, rfl⟩
    · rcases h1 with ⟨w1, hw1, rfl⟩ | ⟨b1, k1, l1, rfl⟩
      · exact FnOK.ftree spVn_ok.cfg mixed Tryz.func17 someCH (ck_NN (bl w0) (bl w1) (fun v => v = .int .i64 0)) (pick_f (szN hw0) (need_mk (okN_mk hw0) (pick_f (szN hw1) (need_mk (okN_mk hw1) rfl))))
      · exact FnOK.ftree spVn_ok.cfg mixed Tryz.func17 someCH (ck_NI (bl w0) b1 (fun v => v = .int .i64 0)) (pick_f (szN hw0) (need_mk (okN_mk hw0) (need_mk okN_e (pick_f (decide_eq_false (by omega)) (pick_f (decide_eq_false (by omega)) rfl)))))
    · rcases h1 with ⟨w1, hw1, rfl⟩ | ⟨b1, k1, l1, rfl⟩
      · exact FnOK.ftree spVn_ok.cfg mixed Tryz.func17 someCH (ck_IN b0 (bl w1) (fun v => v = .int .i64 0)) (need_mk okN_e (pick_f (decide_eq_false (by omega)) (pick_f (decide_eq_false (by omega)) (pick_f (szN hw1) (need_mk (okN_mk hw1) rfl)))))
      · exact FnOK.ftree spVn_ok.cfg mixed Tryz.func17 someCH (ck_II b0 b1 (fun v => v = .int .i64 0)) (need_mk okN_e (pick_f (decide_eq_false (by omega)) (pick_f (decide_eq_false (by omega)) (need_mk okN_e (pick_f (decide_eq_false (by omega)) (pick_f (decide_eq_false (by omega)) rfl))))))
theorem ck_f3 (p : List ValLaw.Stp) (hl : p.length = 3) (hp : ∀ s ∈ p, s ∈ ValLaw.stepsU) : FnOK 0 Tryz.prog 17 ⟨[pathV p]⟩ h0 (fun v _ => v = .int .i64 0) := by
  match p, hl, hp with
  | [x0, x1, x2], _, hp =>
    have h0 := stc (hp x0 (by simp))
    have h1 := stc (hp x1 (by simp))
    have h2 := stc (hp x2 (by simp))
    rcases h0 with ⟨w0, hw0, rfl⟩ | ⟨b0, k0, l0, rfl⟩
    · rcases h1 with ⟨w1, hw1, rfl⟩ | ⟨b1, k1, l1, rfl⟩
      · rcases h2 with ⟨w2, hw2, rfl⟩ | ⟨b2, k2, l2, rfl⟩
        · exact FnOK.ftree spVn_ok.cfg mixed Tryz.func17 someCH (ck_NNN (bl w0) (bl w1) (bl w2) (fun v => v = .int .i64 0)) (pick_f (szN hw0) (need_mk (okN_mk hw0) (pick_f (szN hw1) (need_mk (okN_mk hw1) (pick_f (szN hw2) (need_mk (okN_mk hw2) rfl))))))
        · exact FnOK.ftree spVn_ok.cfg mixed Tryz.func17 someCH (ck_NNI (bl w0) (bl w1) b2 (fun v => v = .int .i64 0)) (pick_f (szN hw0) (need_mk (okN_mk hw0) (pick_f (szN hw1) (need_mk (okN_mk hw1) (need_mk okN_e (pick_f (decide_eq_false (by omega)) (pick_f (decide_eq_false (by omega)) rfl)))))))
      · rcases h2 with ⟨w2, hw2, rfl⟩ | ⟨b2, k2, l2, rfl⟩
        · exact FnOK.ftree spVn_ok.cfg mixed Tryz.func17 someCH (ck_NIN (bl w0) b1 (bl w2) (fun v => v = .int .i64 0)) (pick_f (szN hw0) (need_mk (okN_mk hw0) (need_mk okN_e (pick_f (decide_eq_false (by omega)) (pick_f (decide_eq_false (by omega)) (pick_f (szN hw2) (need_mk (okN_mk hw2) rfl)))))))
        · exact FnOK.ftree spVn_ok.cfg mixed Tryz.func17 someCH (ck_NII (bl w0) b1 b2 (fun v => v = .int .i64 0)) (pick_f (szN hw0) (need_mk (okN_mk hw0) (need_mk okN_e (pick_f (decide_eq_false (by omega)) (pick_f (decide_eq_false (by omega)) (need_mk okN_e (pick_f (decide_eq_false (by omega)) (pick_f (decide_eq_false (by omega)) rfl))))))))
    · rcases h1 with ⟨w1, hw1, rfl⟩ | ⟨b1, k1, l1, rfl⟩
      · rcases h2 with ⟨w2, hw2, rfl⟩ | ⟨b2, k2, l2, rfl⟩
        · exact FnOK.ftree spVn_ok.cfg mixed Tryz.func17 someCH (ck_INN b0 (bl w1) (bl w2) (fun v => v = .int .i64 0)) (need_mk okN_e (pick_f (decide_eq_false (by omega)) (pick_f (decide_eq_false (by omega)) (pick_f (szN hw1) (need_mk (okN_mk hw1) (pick_f (szN hw2) (need_mk (okN_mk hw2) rfl)))))))
        · exact FnOK.ftree spVn_ok.cfg mixed Tryz.func17 someCH (ck_INI b0 (bl w1) b2 (fun v => v = .int .i64 0)) (need_mk okN_e (pick_f (decide_eq_false (by omega)) (pick_f (decide_eq_false (by omega)) (pick_f (szN hw1) (need_mk (okN_mk hw1) (need_mk okN_e (pick_f (decide_eq_false (by omega)) (pick_f (decide_eq_false (by omega)) rfl))))))))
      · rcases h2 with ⟨w2, hw2, rfl⟩ | ⟨b2, k2, l2, rfl⟩
        · exact FnOK.ftree spVn_ok.cfg mixed Tryz.func17 someCH (ck_IIN b0 b1 (bl w2) (fun v => v = .int .i64 0)) (need_mk okN_e (pick_f (decide_eq_false (by omega)) (pick_f (decide_eq_false (by omega)) (need_mk okN_e (pick_f (decide_eq_false (by omega)) (pick_f (decide_eq_false (by omega)) (pick_f (szN hw2) (need_mk (okN_mk hw2) rfl))))))))
        · exact FnOK.ftree spVn_ok.cfg mixed Tryz.func17 someCH (ck_III b0 b1 b2 (fun v => v = .int .i64 0)) (need_mk okN_e (pick_f (decide_eq_false (by omega)) (pick_f (decide_eq_false (by omega)) (need_mk okN_e (pick_f (decide_eq_false (by omega)) (pick_f (decide_eq_false (by omega)) (need_mk okN_e (pick_f (decide_eq_false (by omega)) (pick_f (decide_eq_false (by omega)) rfl)))))))))
/-- A path as there are. -/
def okP (p : List ValLaw.Stp) : Prop := p.length ≤ 3 ∧ ∀ s ∈ p, s ∈ ValLaw.stepsU
theorem ck_fn {p : List ValLaw.Stp} (hp : okP p) : FnOK 0 Tryz.prog 17 ⟨[pathV p]⟩ h0 (fun v _ => v = .int .i64 0) := by
  have : p.length = 0 ∨ p.length = 1 ∨ p.length = 2 ∨ p.length = 3 := by have := hp.1; omega
  rcases this with q | q | q | q
  · exact ck_f0 p q
  · exact ck_f1 p q hp.2
  · exact ck_f2 p q hp.2
  · exact ck_f3 p q hp.2
/-! stepText -/
theorem someSX : Tryz.f21.body.isSome = true := by kernel_rfl
theorem sx_0 (Q : Value → Prop) : ffn Tryz.prog SPe [] 9000 [] Tryz.f21 [stepV (true, [], 0)] h0 (fun v _ => Q v) = Q (.string (bl (ValLaw.stT (true, [], 0)))) := by kernel_rfl
theorem sx_1 (Q : Value → Prop) : ffn Tryz.prog SPe [] 9000 [] Tryz.f21 [stepV (true, [97], 0)] h0 (fun v _ => Q v) = Q (.string (bl (ValLaw.stT (true, [97], 0)))) := by kernel_rfl
theorem sx_2 (Q : Value → Prop) : ffn Tryz.prog SPe [] 9000 [] Tryz.f21 [stepV (true, [98], 0)] h0 (fun v _ => Q v) = Q (.string (bl (ValLaw.stT (true, [98], 0)))) := by kernel_rfl
theorem sx_3 (Q : Value → Prop) : ffn Tryz.prog SPe [] 9000 [] Tryz.f21 [stepV (true, [99, 32, 100], 0)] h0 (fun v _ => Q v) = Q (.string (bl (ValLaw.stT (true, [99, 32, 100], 0)))) := by kernel_rfl
theorem sx_4 (Q : Value → Prop) : ffn Tryz.prog SPe [] 9000 [] Tryz.f21 [stepV (true, [110], 0)] h0 (fun v _ => Q v) = Q (.string (bl (ValLaw.stT (true, [110], 0)))) := by kernel_rfl
theorem sx_5 (Q : Value → Prop) : ffn Tryz.prog SPe [] 9000 [] Tryz.f21 [stepV (true, [115], 0)] h0 (fun v _ => Q v) = Q (.string (bl (ValLaw.stT (true, [115], 0)))) := by kernel_rfl
theorem sx_6 (Q : Value → Prop) : ffn Tryz.prog SPe [] 9000 [] Tryz.f21 [stepV (false, [], 0)] h0 (fun v _ => Q v) = Q (.string (bl (ValLaw.stT (false, [], 0)))) := by kernel_rfl
theorem sx_7 (Q : Value → Prop) : ffn Tryz.prog SPe [] 9000 [] Tryz.f21 [stepV (false, [], 1)] h0 (fun v _ => Q v) = Q (.string (bl (ValLaw.stT (false, [], 1)))) := by kernel_rfl
theorem sx_8 (Q : Value → Prop) : ffn Tryz.prog SPe [] 9000 [] Tryz.f21 [stepV (false, [], 2)] h0 (fun v _ => Q v) = Q (.string (bl (ValLaw.stT (false, [], 2)))) := by kernel_rfl
theorem sx_fn : ∀ s ∈ ValLaw.stepsU, FnOK 0 Tryz.prog 21 ⟨[stepV s]⟩ h0 (fun v _ => v = .string (bl (ValLaw.stT s))) := by
  intro s h
  simp only [ValLaw.stepsU, List.mem_cons, List.not_mem_nil, or_false] at h
  rcases h with rfl | rfl | rfl | rfl | rfl | rfl | rfl | rfl | rfl
  · exact FnOK.ftree SPe_ok mixed Tryz.func21 someSX (sx_0 (fun v => v = .string (bl (ValLaw.stT (true, [], 0))))) rfl
  · exact FnOK.ftree SPe_ok mixed Tryz.func21 someSX (sx_1 (fun v => v = .string (bl (ValLaw.stT (true, [97], 0))))) rfl
  · exact FnOK.ftree SPe_ok mixed Tryz.func21 someSX (sx_2 (fun v => v = .string (bl (ValLaw.stT (true, [98], 0))))) rfl
  · exact FnOK.ftree SPe_ok mixed Tryz.func21 someSX (sx_3 (fun v => v = .string (bl (ValLaw.stT (true, [99, 32, 100], 0))))) rfl
  · exact FnOK.ftree SPe_ok mixed Tryz.func21 someSX (sx_4 (fun v => v = .string (bl (ValLaw.stT (true, [110], 0))))) rfl
  · exact FnOK.ftree SPe_ok mixed Tryz.func21 someSX (sx_5 (fun v => v = .string (bl (ValLaw.stT (true, [115], 0))))) rfl
  · exact FnOK.ftree SPe_ok mixed Tryz.func21 someSX (sx_6 (fun v => v = .string (bl (ValLaw.stT (false, [], 0))))) rfl
  · exact FnOK.ftree SPe_ok mixed Tryz.func21 someSX (sx_7 (fun v => v = .string (bl (ValLaw.stT (false, [], 1))))) rfl
  · exact FnOK.ftree SPe_ok mixed Tryz.func21 someSX (sx_8 (fun v => v = .string (bl (ValLaw.stT (false, [], 2))))) rfl

/-! PathText -/
noncomputable def okS (b : Bool) (s : ByteArray) (a : Int) : Bool := decide (((b, s.data.toList, a) : ValLaw.Stp) ∈ ValLaw.stepsU)
def txS (b : Bool) (s : ByteArray) (a : Int) : ByteArray := bl (ValLaw.stT (b, s.data.toList, a))
noncomputable def spCp (X : Value) (f : FuncId) (args : Array Value) (h : AH) : Option (Bool × Value × AH) :=
  cond (Nat.beq f 17) (match args with
    | ⟨[y]⟩ => some (eqV y X, .int .i64 0, h)
    | _ => none) none
noncomputable def spSt (f : FuncId) (args : Array Value) (h : AH) : Option (Bool × Value × AH) :=
  cond (Nat.beq f 21) (match args with
    | ⟨[.agg ⟨[.bool b, .string s, .int .i64 a]⟩]⟩ => some (okS b s a, .string (txS b s a), h)
    | _ => none) none
noncomputable def SPt (X : Value) : SC := ⟨idn, spOr (spCp X) spSt, true, true⟩
def byV (b : UInt8) : Value := .int .u8 (b.toNat : Int)
def wrS (cs : List Value) (j : Nat) (s : ByteArray) (K : List Value → Nat → Prop) : Prop :=
  bif Nat.ble (j + s.size) j then False else bif Nat.ble (j + s.size) 9223372036854775807 && Nat.ble ((j + s.size) * 1) 140737488355328 then
    bif Nat.ble (0 + j * 1) (Array.mk cs).size && true && (s.data.toList.map byV).all oneCell then K (List.take (j * 1) (List.drop 0 (Array.mk cs).toList) ++ s.data.toList.map byV) (j + s.size) else False else False
def wr0 (s : ByteArray) (K : List Value → Nat → Prop) : Prop :=
  bif Nat.ble (0 + s.size) 0 then False else bif Nat.ble (0 + s.size) 9223372036854775807 && Nat.ble ((0 + s.size) * 1) 140737488355328 then K (s.data.toList.map byV) s.size else False
def finS (cs : List Value) (j : Nat) (Q : Value → Prop) : Prop :=
  bif Nat.ble 1 j then bif decide (0 < (j : Int)) && decide ((j : Int) ≤ 9223372036854775807) && true && true && true && (0 + (j : Int).toNat).ble (Array.mk cs).size && (List.take (j : Int).toNat (List.drop 0 (Array.mk cs).toList)).all isByte then
    Q (.tuple ⟨[.string ⟨⟨List.map toByte (List.take (j : Int).toNat (List.drop 0 (Array.mk cs).toList))⟩⟩, .int .i64 0]⟩) else False else False
theorem somePT : Tryz.f7.body.isSome = true := by kernel_rfl
theorem pt_nil (c : Nat) (Q : Value → Prop) : ffn Tryz.prog SPe [] 900 [] Tryz.f7 [.slice none 0 c] h0 (fun v _ => Q v) = Q (.tuple ⟨[.string ⟨#[]⟩, .int .i64 0]⟩) := by kernel_rfl
theorem pt_ez (Q : Value → Prop) : tfn Tryz.prog SPe [] (ghost1 0 (unezG 24 0)) 900 [] Tryz.f7 [ez] h0 (fun v _ => Q v) = Q (.tuple ⟨[.string ⟨#[]⟩, .int .i64 0]⟩) := by kernel_rfl
theorem pt_1 (b0 : Bool) (s0 : ByteArray) (a0 : Int) (Q : Value → Prop) : ffn Tryz.prog (SPt (fz ⟨[.agg ⟨[.bool b0, .string s0, .int .i64 a0]⟩]⟩)) [] 900 [] Tryz.f7 [fz ⟨[.agg ⟨[.bool b0, .string s0, .int .i64 a0]⟩]⟩] h0 (fun v _ => Q v) = (bif eqV (fz ⟨[.agg ⟨[.bool b0, .string s0, .int .i64 a0]⟩]⟩) (fz ⟨[.agg ⟨[.bool b0, .string s0, .int .i64 a0]⟩]⟩) then (.agg ⟨[.bool b0, .string s0, .int .i64 a0]⟩ : Value) = .agg ⟨[.bool b0, .string s0, .int .i64 a0]⟩ ∧ bif okS b0 s0 a0 then wr0 (txS b0 s0 a0) fun cs j => finS cs j Q else False else False) := by kernel_rfl
theorem pt_2 (b0 : Bool) (s0 : ByteArray) (a0 : Int) (b1 : Bool) (s1 : ByteArray) (a1 : Int) (Q : Value → Prop) : ffn Tryz.prog (SPt (fz ⟨[.agg ⟨[.bool b0, .string s0, .int .i64 a0]⟩, .agg ⟨[.bool b1, .string s1, .int .i64 a1]⟩]⟩)) [] 900 [] Tryz.f7 [fz ⟨[.agg ⟨[.bool b0, .string s0, .int .i64 a0]⟩, .agg ⟨[.bool b1, .string s1, .int .i64 a1]⟩]⟩] h0 (fun v _ => Q v) = (bif eqV (fz ⟨[.agg ⟨[.bool b0, .string s0, .int .i64 a0]⟩, .agg ⟨[.bool b1, .string s1, .int .i64 a1]⟩]⟩) (fz ⟨[.agg ⟨[.bool b0, .string s0, .int .i64 a0]⟩, .agg ⟨[.bool b1, .string s1, .int .i64 a1]⟩]⟩) then (.agg ⟨[.bool b0, .string s0, .int .i64 a0]⟩ : Value) = .agg ⟨[.bool b0, .string s0, .int .i64 a0]⟩ ∧ bif okS b0 s0 a0 then wr0 (txS b0 s0 a0) fun cs j => (.agg ⟨[.bool b1, .string s1, .int .i64 a1]⟩ : Value) = .agg ⟨[.bool b1, .string s1, .int .i64 a1]⟩ ∧ bif okS b1 s1 a1 then wrS cs j (txS b1 s1 a1) fun cs j => finS cs j Q else False else False else False) := by kernel_rfl
theorem pt_3 (b0 : Bool) (s0 : ByteArray) (a0 : Int) (b1 : Bool) (s1 : ByteArray) (a1 : Int) (b2 : Bool) (s2 : ByteArray) (a2 : Int) (Q : Value → Prop) : ffn Tryz.prog (SPt (fz ⟨[.agg ⟨[.bool b0, .string s0, .int .i64 a0]⟩, .agg ⟨[.bool b1, .string s1, .int .i64 a1]⟩, .agg ⟨[.bool b2, .string s2, .int .i64 a2]⟩]⟩)) [] 900 [] Tryz.f7 [fz ⟨[.agg ⟨[.bool b0, .string s0, .int .i64 a0]⟩, .agg ⟨[.bool b1, .string s1, .int .i64 a1]⟩, .agg ⟨[.bool b2, .string s2, .int .i64 a2]⟩]⟩] h0 (fun v _ => Q v) = (bif eqV (fz ⟨[.agg ⟨[.bool b0, .string s0, .int .i64 a0]⟩, .agg ⟨[.bool b1, .string s1, .int .i64 a1]⟩, .agg ⟨[.bool b2, .string s2, .int .i64 a2]⟩]⟩) (fz ⟨[.agg ⟨[.bool b0, .string s0, .int .i64 a0]⟩, .agg ⟨[.bool b1, .string s1, .int .i64 a1]⟩, .agg ⟨[.bool b2, .string s2, .int .i64 a2]⟩]⟩) then (.agg ⟨[.bool b0, .string s0, .int .i64 a0]⟩ : Value) = .agg ⟨[.bool b0, .string s0, .int .i64 a0]⟩ ∧ bif okS b0 s0 a0 then wr0 (txS b0 s0 a0) fun cs j => (.agg ⟨[.bool b1, .string s1, .int .i64 a1]⟩ : Value) = .agg ⟨[.bool b1, .string s1, .int .i64 a1]⟩ ∧ bif okS b1 s1 a1 then wrS cs j (txS b1 s1 a1) fun cs j => (.agg ⟨[.bool b2, .string s2, .int .i64 a2]⟩ : Value) = .agg ⟨[.bool b2, .string s2, .int .i64 a2]⟩ ∧ bif okS b2 s2 a2 then wrS cs j (txS b2 s2 a2) fun cs j => finS cs j Q else False else False else False else False) := by kernel_rfl
/-! slices.Equal -/
theorem someEQ : Tryz.f9.body.isSome = true := by kernel_rfl
def eqT (b : Bool) (s : ByteArray) (a : Int) : Bool := !(b == b && (s == s && (a == a && true)))
theorem eqT_f (b : Bool) (s : ByteArray) (a : Int) : eqT b s a = false := by
  have h1 : (b == b) = true := by cases b <;> rfl
  have h2 : (s == s) = true := by
    show (s.data == s.data) = true
    exact beq_self_eq_true s.data
  have h3 : (a == a) = true := beq_self_eq_true a
  unfold eqT
  rw [h1, h2, h3]; rfl
theorem eq_nil (c d : Nat) (Q : Value → Prop) : ffn Tryz.prog SPe [] 900 [] Tryz.f9 [.slice none 0 c, .slice none 0 d] h0 (fun v _ => Q v) = Q (.bool true) := by kernel_rfl
theorem eq_ez (Q : Value → Prop) : tfn Tryz.prog SPe [] (ghost1 0 (thenG (unezG 26 0) (unezG 26 1))) 900 [] Tryz.f9 [ez, ez] h0 (fun v _ => Q v) = Q (.bool true) := by kernel_rfl
theorem eq_ne (c : Nat) (Q : Value → Prop) : tfn Tryz.prog SPe [] (ghost1 0 (unezG 26 1)) 900 [] Tryz.f9 [.slice none 0 c, ez] h0 (fun v _ => Q v) = Q (.bool true) := by kernel_rfl
theorem eq_en (c : Nat) (Q : Value → Prop) : tfn Tryz.prog SPe [] (ghost1 0 (unezG 26 0)) 900 [] Tryz.f9 [ez, .slice none 0 c] h0 (fun v _ => Q v) = Q (.bool true) := by kernel_rfl
theorem eq_1 (b0 : Bool) (s0 : ByteArray) (a0 : Int) (Q : Value → Prop) : ffn Tryz.prog SPe [] 900 [] Tryz.f9 [fz ⟨[.agg ⟨[.bool b0, .string s0, .int .i64 a0]⟩]⟩, fz ⟨[.agg ⟨[.bool b0, .string s0, .int .i64 a0]⟩]⟩] h0 (fun v _ => Q v) = (bif eqT b0 s0 a0 then Q (.bool false) else Q (.bool true)) := by kernel_rfl
theorem eq_2 (b0 : Bool) (s0 : ByteArray) (a0 : Int) (b1 : Bool) (s1 : ByteArray) (a1 : Int) (Q : Value → Prop) : ffn Tryz.prog SPe [] 900 [] Tryz.f9 [fz ⟨[.agg ⟨[.bool b0, .string s0, .int .i64 a0]⟩, .agg ⟨[.bool b1, .string s1, .int .i64 a1]⟩]⟩, fz ⟨[.agg ⟨[.bool b0, .string s0, .int .i64 a0]⟩, .agg ⟨[.bool b1, .string s1, .int .i64 a1]⟩]⟩] h0 (fun v _ => Q v) = (bif eqT b0 s0 a0 then Q (.bool false) else bif eqT b1 s1 a1 then Q (.bool false) else Q (.bool true)) := by kernel_rfl
theorem eq_3 (b0 : Bool) (s0 : ByteArray) (a0 : Int) (b1 : Bool) (s1 : ByteArray) (a1 : Int) (b2 : Bool) (s2 : ByteArray) (a2 : Int) (Q : Value → Prop) : ffn Tryz.prog SPe [] 900 [] Tryz.f9 [fz ⟨[.agg ⟨[.bool b0, .string s0, .int .i64 a0]⟩, .agg ⟨[.bool b1, .string s1, .int .i64 a1]⟩, .agg ⟨[.bool b2, .string s2, .int .i64 a2]⟩]⟩, fz ⟨[.agg ⟨[.bool b0, .string s0, .int .i64 a0]⟩, .agg ⟨[.bool b1, .string s1, .int .i64 a1]⟩, .agg ⟨[.bool b2, .string s2, .int .i64 a2]⟩]⟩] h0 (fun v _ => Q v) = (bif eqT b0 s0 a0 then Q (.bool false) else bif eqT b1 s1 a1 then Q (.bool false) else bif eqT b2 s2 a2 then Q (.bool false) else Q (.bool true)) := by kernel_rfl
end Go.Proofs.YtmclppkligkooaaGreatDoor
