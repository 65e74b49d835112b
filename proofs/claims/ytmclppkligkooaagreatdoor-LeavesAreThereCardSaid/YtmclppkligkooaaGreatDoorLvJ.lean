/-
  Paths: plain, words, strict, readStep: what they return on the text of a path.
-/
import Derived.Test.YtmclppkligkooaaGreatDoorLvI
import Derived.Test.YtmclppkligkooaaGreatDoorLvS
namespace Go.Proofs.YtmclppkligkooaaGreatDoor
open Go.Ev Go.RowKit
set_option maxRecDepth 20000

theorem bl_self (s : ByteArray) : bl s.data.toList = s := rfl
theorem bl_cut (l : List UInt8) (a b : Nat) (h : b ≤ l.length) : (bl l).extract a b = bl ((l.take b).drop a) := by
  rw [← bl_self ((bl l).extract a b)]
  congr 1
  have : ((bl l).extract a b).data.toList = ((bl l).data.extract a b).toList := by
    rw [ByteArray.data_extract]
  rw [this]
  simp [bl, List.extract_eq_take_drop, List.drop_take]
theorem btA (pre x : List UInt8) (k : Nat) : bt (bl (pre ++ x)) ((pre.length + k : Nat) : Int) = ((x.getD k 0).toNat : Int) := by
  unfold bt
  rw [bl_list, Int.toNat_natCast]
  congr 2
  simp [List.getD_eq_getElem?_getD, List.getElem?_append_right]
theorem szA (pre x : List UInt8) : ((bl (pre ++ x)).size : Int) = ((pre.length + x.length : Nat) : Int) := by
  rw [bl_size, List.length_append]
theorem bdA (pre x : List UInt8) {k : Nat} (h : k < x.length) : bd (bl (pre ++ x)) ((pre.length + k : Nat) : Int) = true := by
  unfold bd
  rw [szA, Bool.and_eq_true]
  exact ⟨decide_eq_true (by omega), decide_eq_true (by omega)⟩
theorem wpA {n k : Nat} (h : n + k < 100000) : wp ((n + k : Nat) : Int) = ((n + (k + 1) : Nat) : Int) := by
  unfold wp
  rw [wrapS (by omega)]
  rfl
theorem exA (pre w post : List UInt8) {a b : Nat} (ha : a = pre.length) (hb : b = pre.length + w.length) : (bl (pre ++ (w ++ post))).extract a b = bl w := by
  subst ha hb
  rw [bl_cut _ _ _ (by simp)]
  congr 1
  rw [List.take_append, List.drop_append]
  simp
theorem iw_97 (Q : Value → Prop) : ffn Tryz.prog SPe [] 900 [] Tryz.f65 [.int .u8 97] h0 (fun v _ => Q v) = Q (.bool true) := by kernel_rfl
theorem iw_98 (Q : Value → Prop) : ffn Tryz.prog SPe [] 900 [] Tryz.f65 [.int .u8 98] h0 (fun v _ => Q v) = Q (.bool true) := by kernel_rfl
theorem iw_110 (Q : Value → Prop) : ffn Tryz.prog SPe [] 900 [] Tryz.f65 [.int .u8 110] h0 (fun v _ => Q v) = Q (.bool true) := by kernel_rfl
theorem iw_115 (Q : Value → Prop) : ffn Tryz.prog SPe [] 900 [] Tryz.f65 [.int .u8 115] h0 (fun v _ => Q v) = Q (.bool true) := by kernel_rfl
theorem iw_46 (Q : Value → Prop) : ffn Tryz.prog SPe [] 900 [] Tryz.f65 [.int .u8 46] h0 (fun v _ => Q v) = Q (.bool false) := by kernel_rfl
theorem iw_91 (Q : Value → Prop) : ffn Tryz.prog SPe [] 900 [] Tryz.f65 [.int .u8 91] h0 (fun v _ => Q v) = Q (.bool false) := by kernel_rfl
theorem dg_97 (Q : Value → Prop) : ffn Tryz.prog SPe [] 900 [] Tryz.f66 [.int .u8 97] h0 (fun v _ => Q v) = Q (.bool false) := by kernel_rfl
theorem dg_98 (Q : Value → Prop) : ffn Tryz.prog SPe [] 900 [] Tryz.f66 [.int .u8 98] h0 (fun v _ => Q v) = Q (.bool false) := by kernel_rfl
theorem dg_110 (Q : Value → Prop) : ffn Tryz.prog SPe [] 900 [] Tryz.f66 [.int .u8 110] h0 (fun v _ => Q v) = Q (.bool false) := by kernel_rfl
theorem dg_115 (Q : Value → Prop) : ffn Tryz.prog SPe [] 900 [] Tryz.f66 [.int .u8 115] h0 (fun v _ => Q v) = Q (.bool false) := by kernel_rfl
theorem someIW : Tryz.f65.body.isSome = true := by kernel_rfl
theorem someDG : Tryz.f66.body.isSome = true := by kernel_rfl
theorem wB_cases {c : Int} (h : wB c = true) : c = 97 ∨ c = 98 ∨ c = 110 ∨ c = 115 := by
  simp only [wB, Bool.or_eq_true, decide_eq_true_eq] at h
  omega
theorem iw_fn {c : Int} (h : okW c = true) : FnOK 0 Tryz.prog 65 ⟨[.int .u8 c]⟩ h0 (fun v _ => v = .bool (wB c)) := by
  simp only [okW, Bool.or_eq_true, decide_eq_true_eq] at h
  have : c = 97 ∨ c = 98 ∨ c = 110 ∨ c = 115 ∨ c = 46 ∨ c = 91 := by
    rcases h with (h | h) | h
    · rcases wB_cases h with q | q | q | q <;> omega
    · omega
    · omega
  rcases this with rfl | rfl | rfl | rfl | rfl | rfl
  · exact FnOK.ftree SPe_ok mixed Tryz.func65 someIW (iw_97 (fun v => v = .bool (wB 97))) rfl
  · exact FnOK.ftree SPe_ok mixed Tryz.func65 someIW (iw_98 (fun v => v = .bool (wB 98))) rfl
  · exact FnOK.ftree SPe_ok mixed Tryz.func65 someIW (iw_110 (fun v => v = .bool (wB 110))) rfl
  · exact FnOK.ftree SPe_ok mixed Tryz.func65 someIW (iw_115 (fun v => v = .bool (wB 115))) rfl
  · exact FnOK.ftree SPe_ok mixed Tryz.func65 someIW (iw_46 (fun v => v = .bool (wB 46))) rfl
  · exact FnOK.ftree SPe_ok mixed Tryz.func65 someIW (iw_91 (fun v => v = .bool (wB 91))) rfl
theorem dg_fn {c : Int} (h : wB c = true) : FnOK 0 Tryz.prog 66 ⟨[.int .u8 c]⟩ h0 (fun v _ => v = .bool false) := by
  rcases wB_cases h with rfl | rfl | rfl | rfl
  · exact FnOK.ftree SPe_ok mixed Tryz.func66 someDG (dg_97 (fun v => v = .bool false)) rfl
  · exact FnOK.ftree SPe_ok mixed Tryz.func66 someDG (dg_98 (fun v => v = .bool false)) rfl
  · exact FnOK.ftree SPe_ok mixed Tryz.func66 someDG (dg_110 (fun v => v = .bool false)) rfl
  · exact FnOK.ftree SPe_ok mixed Tryz.func66 someDG (dg_115 (fun v => v = .bool false)) rfl
theorem spWb_ok : SpOK spWb := by
  intro f args h v h' hs
  unfold spWb at hs
  obtain ⟨hf, hs2⟩ := cond_some hs
  clear hs
  have := Nat.eq_of_beq_eq_true hf
  subst this
  split at hs2
  · injection hs2 with hs
    injection hs with hb hs
    injection hs with hv hh
    subst hv hh
    exact ⟨FnOK.pure (iw_fn hb) rfl rfl h, Nat.le_refl _⟩
  · cases hs2
theorem spDg_ok : SpOK spDg := by
  intro f args h v h' hs
  unfold spDg at hs
  obtain ⟨hf, hs2⟩ := cond_some hs
  clear hs
  have := Nat.eq_of_beq_eq_true hf
  subst this
  split at hs2
  · injection hs2 with hs
    injection hs with hb hs
    injection hs with hv hh
    subst hv hh
    exact ⟨FnOK.pure (dg_fn hb) rfl rfl h, Nat.le_refl _⟩
  · cases hs2
/-- What stands behind a step. -/
def okR (r : List UInt8) : Prop := r = [] ∨ ∃ d l, r = d :: l ∧ (d = 46 ∨ d = 91)
theorem pl_fn (pre : List UInt8) {c : UInt8} (hc : wB (c.toNat : Int) = true) {rest : List UInt8} (hr : okR rest) (hl : pre.length + (c :: rest).length ≤ 90000) : FnOK 0 Tryz.prog 41 ⟨[.string (bl (pre ++ c :: rest)), .int .i64 ((pre.length + 0 : Nat) : Int)]⟩ h0 (fun v _ => v = .int .i64 ((pre.length + 1 : Nat) : Int)) := by
  have hll : (c :: rest).length = rest.length + 1 := rfl
  have hb0 : bt (bl (pre ++ c :: rest)) ((pre.length + 0 : Nat) : Int) = _ := btA pre (c :: rest) 0
  have hd0 : bd (bl (pre ++ c :: rest)) ((pre.length + 0 : Nat) : Int) = true := bdA pre (c :: rest) (by simp)
  have hw0 : wp ((pre.length + 0 : Nat) : Int) = ((pre.length + 1 : Nat) : Int) := wpA (by omega)
  have hs : ((bl (pre ++ c :: rest)).size : Int) = ((pre.length + (c :: rest).length : Nat) : Int) := szA pre (c :: rest)
  have hb0 : bt (bl (pre ++ c :: rest)) ((pre.length + 0 : Nat) : Int) = (c.toNat : Int) := hb0
  have hok : okW (c.toNat : Int) = true := by unfold okW; rw [hc]; rfl
  rcases hr with rfl | ⟨d, l, rfl, hd⟩
  · have e0 := plE (bl (pre ++ c :: [])) ((pre.length + 0 : Nat) : Int) (fun v => v = .int .i64 ((pre.length + 1 : Nat) : Int))
    rw [hb0, hw0] at e0
    refine FnOK.ftree (spWb_ok.or spDg_ok).cfg mixed Tryz.func41 somePL e0 ?_
    have hz : ([] : List UInt8).length = 0 := rfl
    exact nd_mk (decide_eq_true (by omega)) (nd_mk hd0 (nd_mk hok (nd_mk hc (nd_mk (beq_self_eq_true _) (nd_mk hd0 (nd_mk hc (nf_mk (decide_eq_false (by omega)) rfl)))))))
  · have hdl : (d :: l).length = l.length + 1 := rfl
    have hb1 : bt (bl (pre ++ c :: d :: l)) ((pre.length + 1 : Nat) : Int) = (d.toNat : Int) := btA pre (c :: d :: l) 1
    have hd1 : bd (bl (pre ++ c :: d :: l)) ((pre.length + 1 : Nat) : Int) = true := bdA pre (c :: d :: l) (by simp)
    have e0 := plN (bl (pre ++ c :: d :: l)) ((pre.length + 0 : Nat) : Int) (fun v => v = .int .i64 ((pre.length + 1 : Nat) : Int))
    rw [hb0, hw0, hb1] at e0
    refine FnOK.ftree (spWb_ok.or spDg_ok).cfg mixed Tryz.func41 somePL e0 ?_
    have k1 : okW (d.toNat : Int) = true := by rcases hd with rfl | rfl <;> rfl
    have k2 : wB (d.toNat : Int) = false := by rcases hd with rfl | rfl <;> rfl
    exact nd_mk (decide_eq_true (by omega)) (nd_mk hd0 (nd_mk hok (nd_mk hc (nd_mk (beq_self_eq_true _) (nd_mk hd0 (nd_mk hc (nd_mk (decide_eq_true (by omega)) (nd_mk hd1 (nd_mk k1 (nf_mk k2 rfl))))))))))
/-! words -/
theorem spEs_ok : SpOK spEs := by
  intro f args h v h' hs
  unfold spEs at hs
  obtain ⟨hf, hs2⟩ := cond_some hs
  split at hs2
  · injection hs2 with hs
    injection hs with hb hs
    cases hb
  · cases hs2
theorem wd_fe (pre rest : List UInt8) (hl : pre.length + (34 :: 34 :: rest).length ≤ 90000) : FnOK 0 Tryz.prog 67 ⟨[.string (bl (pre ++ 34 :: 34 :: rest)), .int .i64 ((pre.length + 0 : Nat) : Int)]⟩ h0 (fun v _ => v = .tuple ⟨[.string (bl []), .int .i64 ((pre.length + 2 : Nat) : Int), .bool true]⟩) := by
  have hll : (34 :: 34 :: rest).length = rest.length + 2 := rfl
  have hb1 : bt (bl (pre ++ 34 :: 34 :: rest)) ((pre.length + 1 : Nat) : Int) = _ := btA pre (34 :: 34 :: rest) 1
  have hd1 : bd (bl (pre ++ 34 :: 34 :: rest)) ((pre.length + 1 : Nat) : Int) = true := bdA pre (34 :: 34 :: rest) (by simp)
  have hw0 : wp ((pre.length + 0 : Nat) : Int) = ((pre.length + 1 : Nat) : Int) := wpA (by omega)
  have hw1 : wp ((pre.length + 1 : Nat) : Int) = ((pre.length + 2 : Nat) : Int) := wpA (by omega)
  have hs : ((bl (pre ++ 34 :: 34 :: rest)).size : Int) = ((pre.length + (34 :: 34 :: rest).length : Nat) : Int) := szA pre (34 :: 34 :: rest)
  have hb1 : bt (bl (pre ++ 34 :: 34 :: rest)) ((pre.length + 1 : Nat) : Int) = 34 := hb1
  have e0 := wd_e (bl (pre ++ 34 :: 34 :: rest)) ((pre.length + 0 : Nat) : Int) (fun v => v = .tuple ⟨[.string (bl []), .int .i64 ((pre.length + 2 : Nat) : Int), .bool true]⟩)
  rw [hw0, hw1, hb1] at e0
  exact FnOK.ftree spEs_ok.cfg mixed Tryz.func67 someWD e0 (nd_mk (decide_eq_true (by omega)) (nd_mk hd1 (nd_mk rfl rfl)))
theorem wd_fc (pre rest : List UInt8) (hl : pre.length + (34 :: 99 :: 32 :: 100 :: 34 :: rest).length ≤ 90000) : FnOK 0 Tryz.prog 67 ⟨[.string (bl (pre ++ 34 :: 99 :: 32 :: 100 :: 34 :: rest)), .int .i64 ((pre.length + 0 : Nat) : Int)]⟩ h0 (fun v _ => v = .tuple ⟨[.string (bl [99, 32, 100]), .int .i64 ((pre.length + 5 : Nat) : Int), .bool true]⟩) := by
  have hll : (34 :: 99 :: 32 :: 100 :: 34 :: rest).length = rest.length + 5 := rfl
  have hb1 : bt (bl (pre ++ 34 :: 99 :: 32 :: 100 :: 34 :: rest)) ((pre.length + 1 : Nat) : Int) = _ := btA pre (34 :: 99 :: 32 :: 100 :: 34 :: rest) 1
  have hd1 : bd (bl (pre ++ 34 :: 99 :: 32 :: 100 :: 34 :: rest)) ((pre.length + 1 : Nat) : Int) = true := bdA pre (34 :: 99 :: 32 :: 100 :: 34 :: rest) (by simp)
  have hb2 : bt (bl (pre ++ 34 :: 99 :: 32 :: 100 :: 34 :: rest)) ((pre.length + 2 : Nat) : Int) = _ := btA pre (34 :: 99 :: 32 :: 100 :: 34 :: rest) 2
  have hd2 : bd (bl (pre ++ 34 :: 99 :: 32 :: 100 :: 34 :: rest)) ((pre.length + 2 : Nat) : Int) = true := bdA pre (34 :: 99 :: 32 :: 100 :: 34 :: rest) (by simp)
  have hb3 : bt (bl (pre ++ 34 :: 99 :: 32 :: 100 :: 34 :: rest)) ((pre.length + 3 : Nat) : Int) = _ := btA pre (34 :: 99 :: 32 :: 100 :: 34 :: rest) 3
  have hd3 : bd (bl (pre ++ 34 :: 99 :: 32 :: 100 :: 34 :: rest)) ((pre.length + 3 : Nat) : Int) = true := bdA pre (34 :: 99 :: 32 :: 100 :: 34 :: rest) (by simp)
  have hb4 : bt (bl (pre ++ 34 :: 99 :: 32 :: 100 :: 34 :: rest)) ((pre.length + 4 : Nat) : Int) = _ := btA pre (34 :: 99 :: 32 :: 100 :: 34 :: rest) 4
  have hd4 : bd (bl (pre ++ 34 :: 99 :: 32 :: 100 :: 34 :: rest)) ((pre.length + 4 : Nat) : Int) = true := bdA pre (34 :: 99 :: 32 :: 100 :: 34 :: rest) (by simp)
  have hw0 : wp ((pre.length + 0 : Nat) : Int) = ((pre.length + 1 : Nat) : Int) := wpA (by omega)
  have hw1 : wp ((pre.length + 1 : Nat) : Int) = ((pre.length + 2 : Nat) : Int) := wpA (by omega)
  have hw2 : wp ((pre.length + 2 : Nat) : Int) = ((pre.length + 3 : Nat) : Int) := wpA (by omega)
  have hw3 : wp ((pre.length + 3 : Nat) : Int) = ((pre.length + 4 : Nat) : Int) := wpA (by omega)
  have hw4 : wp ((pre.length + 4 : Nat) : Int) = ((pre.length + 5 : Nat) : Int) := wpA (by omega)
  have hs : ((bl (pre ++ 34 :: 99 :: 32 :: 100 :: 34 :: rest)).size : Int) = ((pre.length + (34 :: 99 :: 32 :: 100 :: 34 :: rest).length : Nat) : Int) := szA pre (34 :: 99 :: 32 :: 100 :: 34 :: rest)
  have hb1 : bt (bl (pre ++ 34 :: 99 :: 32 :: 100 :: 34 :: rest)) ((pre.length + 1 : Nat) : Int) = 99 := hb1
  have hb2 : bt (bl (pre ++ 34 :: 99 :: 32 :: 100 :: 34 :: rest)) ((pre.length + 2 : Nat) : Int) = 32 := hb2
  have hb3 : bt (bl (pre ++ 34 :: 99 :: 32 :: 100 :: 34 :: rest)) ((pre.length + 3 : Nat) : Int) = 100 := hb3
  have hb4 : bt (bl (pre ++ 34 :: 99 :: 32 :: 100 :: 34 :: rest)) ((pre.length + 4 : Nat) : Int) = 34 := hb4
  generalize bl (pre ++ 34 :: 99 :: 32 :: 100 :: 34 :: rest) = T at *
  have e0 := wd_h T ((pre.length + 0 : Nat) : Int) (fun vals h => vals = [.string T, .int .i64 ((pre.length + 1 : Nat) : Int), nlV] ∧ h = h0) (bl [99, 32, 100]) ((pre.length + 5 : Nat) : Int) (fun v => v = .tuple ⟨[.string (bl [99, 32, 100]), .int .i64 ((pre.length + 5 : Nat) : Int), .bool true]⟩)
  rw [hw0] at e0
  refine FnOK.ttree spEs_ok.cfg mixed Tryz.func67 someWD (loops_one oneWD3 (hookE_ok (sameX := []) mixed (by decide) ?_)) e0 ⟨⟨rfl, rfl⟩, rfl⟩
  rintro vals h K ⟨⟨rfl, rfl⟩, hK⟩
  refine ⟨0 + 1 + 1 + 1 + 1, ?_⟩
  refine ⟨SWo, [(0, true), (1, false), (38, false), (1185, false)], noHooks, 900, spEs_ok.cfg, loops_none _ _ _ _, ?_⟩
  have e1 := fun B => wd_r0 T ((pre.length + 1 : Nat) : Int) B K
  rw [hb1, hw1] at e1
  refine (e1 _).mpr (nd_mk (decide_eq_true (by omega)) (nd_mk hd1 (nf_mk rfl (nf_mk rfl (nf_mk rfl ⟨nn_al rfl, ?_⟩)))))
  refine ⟨SWo, [(0, true), (1, false), (38, false), (1185, false)], noHooks, 900, spEs_ok.cfg, loops_none _ _ _ _, ?_⟩
  have e2 := fun B => wd_r1 T ((pre.length + 2 : Nat) : Int) B K
  rw [hb2, hw2] at e2
  refine (e2 _).mpr (nd_mk (decide_eq_true (by omega)) (nd_mk hd2 (nf_mk rfl (nf_mk rfl (nf_mk rfl ⟨nn_al rfl, ?_⟩)))))
  refine ⟨SWo, [(0, true), (1, false), (38, false), (1185, false)], noHooks, 900, spEs_ok.cfg, loops_none _ _ _ _, ?_⟩
  have e3 := fun B => wd_r2 T ((pre.length + 3 : Nat) : Int) B K
  rw [hb3, hw3] at e3
  refine (e3 _).mpr (nd_mk (decide_eq_true (by omega)) (nd_mk hd3 (nf_mk rfl (nf_mk rfl (nf_mk rfl ⟨nn_al rfl, ?_⟩)))))
  refine ⟨SWo, [(0, true), (1, true)], noHooks, 900, spEs_ok.cfg, loops_none _ _ _ _, ?_⟩
  have e4 := fun B => wd_x T ((pre.length + 4 : Nat) : Int) B K
  rw [hb4, hw4] at e4
  exact (e4 _).mpr (nd_mk (decide_eq_true (by omega)) (nd_mk hd4 (nd_mk rfl hK)))
/-! strict -/
theorem spWd_ok {T : ByteArray} {a : Int} {w : ByteArray} {e : Int} (hF : FnOK 0 Tryz.prog 67 ⟨[.string T, .int .i64 a]⟩ h0 (fun v _ => v = .tuple ⟨[.string w, .int .i64 e, .bool true]⟩)) : SpOK (spWd T a w e) := by
  intro f args h v h' hs
  unfold spWd at hs
  obtain ⟨hf, hs2⟩ := cond_some hs
  clear hs
  have := Nat.eq_of_beq_eq_true hf
  subst this
  split at hs2
  · injection hs2 with hs
    injection hs with hb hs
    injection hs with hv hh
    subst hv hh
    rw [Bool.and_eq_true] at hb
    have b1 := eqV_eq hb.1
    have b2 := eqV_eq hb.2
    subst b1 b2
    exact ⟨FnOK.pure hF rfl rfl h, Nat.le_refl _⟩
  · cases hs2
theorem spQt_ok {s q : ByteArray} (hF : FnOK 0 Tryz.prog 40 ⟨[.string s]⟩ h0 (fun v _ => v = .string q)) : SpOK (spQt (.string s) q) := by
  intro f args h v h' hs
  unfold spQt at hs
  obtain ⟨hf, hs2⟩ := cond_some hs
  clear hs
  have := Nat.eq_of_beq_eq_true hf
  subst this
  split at hs2
  · injection hs2 with hs
    injection hs with hb hs
    injection hs with hv hh
    subst hv hh
    have b1 := eqV_eq hb
    subst b1
    exact ⟨FnOK.pure hF rfl rfl h, Nat.le_refl _⟩
  · cases hs2
theorem someQT : Tryz.f40.body.isSome = true := by kernel_rfl
theorem qt_e (Q : Value → Prop) : ffn Tryz.prog SPe [] 9000 [] Tryz.f40 [.string (bl [])] h0 (fun v _ => Q v) = Q (.string (bl (ValLaw.qt []))) := by kernel_rfl
theorem ip_e (Q : Value → Prop) : ffn Tryz.prog SPe [] 9000 [] Tryz.f39 [.string (bl [])] h0 (fun v _ => Q v) = Q (.bool false) := by kernel_rfl
theorem qt_c (Q : Value → Prop) : ffn Tryz.prog SPe [] 9000 [] Tryz.f40 [.string (bl [99, 32, 100])] h0 (fun v _ => Q v) = Q (.string (bl (ValLaw.qt [99, 32, 100]))) := by kernel_rfl
theorem ip_c (Q : Value → Prop) : ffn Tryz.prog SPe [] 9000 [] Tryz.f39 [.string (bl [99, 32, 100])] h0 (fun v _ => Q v) = Q (.bool false) := by kernel_rfl
theorem someIP : Tryz.f39.body.isSome = true := by kernel_rfl
theorem sr_fe (pre rest : List UInt8) (hl : pre.length + (34 :: 34 :: rest).length ≤ 90000) : FnOK 0 Tryz.prog 42 ⟨[.string (bl (pre ++ 34 :: 34 :: rest)), .int .i64 ((pre.length + 0 : Nat) : Int)]⟩ h0 (fun v _ => v = .tuple ⟨[.string (bl []), .int .i64 ((pre.length + 2 : Nat) : Int), .bool true]⟩) := by
  have hll : (34 :: 34 :: rest).length = rest.length + 2 := rfl
  have hb0 : bt (bl (pre ++ 34 :: 34 :: rest)) ((pre.length + 0 : Nat) : Int) = _ := btA pre (34 :: 34 :: rest) 0
  have hd0 : bd (bl (pre ++ 34 :: 34 :: rest)) ((pre.length + 0 : Nat) : Int) = true := bdA pre (34 :: 34 :: rest) (by simp)
  have hs : ((bl (pre ++ 34 :: 34 :: rest)).size : Int) = ((pre.length + (34 :: 34 :: rest).length : Nat) : Int) := szA pre (34 :: 34 :: rest)
  have hb0 : bt (bl (pre ++ 34 :: 34 :: rest)) ((pre.length + 0 : Nat) : Int) = 34 := hb0
  have hF := wd_fe pre rest hl
  have hQ : FnOK 0 Tryz.prog 40 ⟨[.string (bl [])]⟩ h0 (fun v _ => v = .string (bl (ValLaw.qt []))) := FnOK.ftree SPe_ok mixed Tryz.func40 someQT (qt_e (fun v => v = .string (bl (ValLaw.qt [])))) rfl
  have hx : (bl (pre ++ 34 :: 34 :: rest)).extract (((pre.length + 0 : Nat) : Int)).toNat (((pre.length + 2 : Nat) : Int)).toNat = bl (ValLaw.qt []) := exA pre (ValLaw.qt []) rest rfl rfl
  have e0 := sr_eq (bl (pre ++ 34 :: 34 :: rest)) (bl []) (bl (ValLaw.qt [])) ((pre.length + 0 : Nat) : Int) ((pre.length + 2 : Nat) : Int) (fun v => v = .tuple ⟨[.string (bl []), .int .i64 ((pre.length + 2 : Nat) : Int), .bool true]⟩)
  rw [hb0, hx, eqB_self] at e0
  refine FnOK.ftree ((spWd_ok hF).or (spQt_ok hQ)).cfg mixed Tryz.func42 someSR e0 (nf_mk (decide_eq_false (by omega)) (nd_mk hd0 (nf_mk rfl (nd_mk (by rw [eqV_self, eqV_self]; rfl) (nd_mk (eqV_self _) (nd_mk ?_ rfl))))))
  rw [Bool.and_eq_true, Bool.and_eq_true]
  exact ⟨⟨decide_eq_true (by omega), decide_eq_true (by omega)⟩, decide_eq_true (by omega)⟩
theorem sr_fc (pre rest : List UInt8) (hl : pre.length + (34 :: 99 :: 32 :: 100 :: 34 :: rest).length ≤ 90000) : FnOK 0 Tryz.prog 42 ⟨[.string (bl (pre ++ 34 :: 99 :: 32 :: 100 :: 34 :: rest)), .int .i64 ((pre.length + 0 : Nat) : Int)]⟩ h0 (fun v _ => v = .tuple ⟨[.string (bl [99, 32, 100]), .int .i64 ((pre.length + 5 : Nat) : Int), .bool true]⟩) := by
  have hll : (34 :: 99 :: 32 :: 100 :: 34 :: rest).length = rest.length + 5 := rfl
  have hb0 : bt (bl (pre ++ 34 :: 99 :: 32 :: 100 :: 34 :: rest)) ((pre.length + 0 : Nat) : Int) = _ := btA pre (34 :: 99 :: 32 :: 100 :: 34 :: rest) 0
  have hd0 : bd (bl (pre ++ 34 :: 99 :: 32 :: 100 :: 34 :: rest)) ((pre.length + 0 : Nat) : Int) = true := bdA pre (34 :: 99 :: 32 :: 100 :: 34 :: rest) (by simp)
  have hs : ((bl (pre ++ 34 :: 99 :: 32 :: 100 :: 34 :: rest)).size : Int) = ((pre.length + (34 :: 99 :: 32 :: 100 :: 34 :: rest).length : Nat) : Int) := szA pre (34 :: 99 :: 32 :: 100 :: 34 :: rest)
  have hb0 : bt (bl (pre ++ 34 :: 99 :: 32 :: 100 :: 34 :: rest)) ((pre.length + 0 : Nat) : Int) = 34 := hb0
  have hF := wd_fc pre rest hl
  have hQ : FnOK 0 Tryz.prog 40 ⟨[.string (bl [99, 32, 100])]⟩ h0 (fun v _ => v = .string (bl (ValLaw.qt [99, 32, 100]))) := FnOK.ftree SPe_ok mixed Tryz.func40 someQT (qt_c (fun v => v = .string (bl (ValLaw.qt [99, 32, 100])))) rfl
  have hx : (bl (pre ++ 34 :: 99 :: 32 :: 100 :: 34 :: rest)).extract (((pre.length + 0 : Nat) : Int)).toNat (((pre.length + 5 : Nat) : Int)).toNat = bl (ValLaw.qt [99, 32, 100]) := exA pre (ValLaw.qt [99, 32, 100]) rest rfl rfl
  have e0 := sr_eq (bl (pre ++ 34 :: 99 :: 32 :: 100 :: 34 :: rest)) (bl [99, 32, 100]) (bl (ValLaw.qt [99, 32, 100])) ((pre.length + 0 : Nat) : Int) ((pre.length + 5 : Nat) : Int) (fun v => v = .tuple ⟨[.string (bl [99, 32, 100]), .int .i64 ((pre.length + 5 : Nat) : Int), .bool true]⟩)
  rw [hb0, hx, eqB_self] at e0
  refine FnOK.ftree ((spWd_ok hF).or (spQt_ok hQ)).cfg mixed Tryz.func42 someSR e0 (nf_mk (decide_eq_false (by omega)) (nd_mk hd0 (nf_mk rfl (nd_mk (by rw [eqV_self, eqV_self]; rfl) (nd_mk (eqV_self _) (nd_mk ?_ rfl))))))
  rw [Bool.and_eq_true, Bool.and_eq_true]
  exact ⟨⟨decide_eq_true (by omega), decide_eq_true (by omega)⟩, decide_eq_true (by omega)⟩
theorem sr_fn0 (pre : List UInt8) {c : UInt8} (hc : ((c.toNat : Int) != 34) = true) (rest : List UInt8) (hl : pre.length + (c :: rest).length ≤ 90000) : FnOK 0 Tryz.prog 42 ⟨[.string (bl (pre ++ c :: rest)), .int .i64 ((pre.length + 0 : Nat) : Int)]⟩ h0 (fun v _ => v = .tuple ⟨[.string ⟨#[]⟩, .int .i64 0, .bool false]⟩) := by
  have hll : (c :: rest).length = rest.length + 1 := rfl
  have hb0 : bt (bl (pre ++ c :: rest)) ((pre.length + 0 : Nat) : Int) = _ := btA pre (c :: rest) 0
  have hd0 : bd (bl (pre ++ c :: rest)) ((pre.length + 0 : Nat) : Int) = true := bdA pre (c :: rest) (by simp)
  have hs : ((bl (pre ++ c :: rest)).size : Int) = ((pre.length + (c :: rest).length : Nat) : Int) := szA pre (c :: rest)
  have hb0 : bt (bl (pre ++ c :: rest)) ((pre.length + 0 : Nat) : Int) = (c.toNat : Int) := hb0
  have hF := wd_fe [] [] (by decide)
  have hQ : FnOK 0 Tryz.prog 40 ⟨[.string (bl [])]⟩ h0 (fun v _ => v = .string (bl (ValLaw.qt []))) := FnOK.ftree SPe_ok mixed Tryz.func40 someQT (qt_e (fun v => v = .string (bl (ValLaw.qt [])))) rfl
  have e0 := sr_no' (bl (pre ++ c :: rest)) (bl ([] ++ 34 :: 34 :: [])) (bl []) (bl (ValLaw.qt [])) ((pre.length + 0 : Nat) : Int) (([] : List UInt8).length + 0 : Nat) (([] : List UInt8).length + 2 : Nat) (fun v => v = .tuple ⟨[.string ⟨#[]⟩, .int .i64 0, .bool false]⟩)
  rw [hb0] at e0
  exact FnOK.ftree ((spWd_ok hF).or (spQt_ok hQ)).cfg mixed Tryz.func42 someSR e0 (nf_mk (decide_eq_false (by omega)) (nd_mk hd0 (nd_mk hc rfl)))
end Go.Proofs.YtmclppkligkooaaGreatDoor
