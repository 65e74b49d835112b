/-
  Paths: readStep returns the step that was written.
-/
import Derived.Test.YtmclppkligkooaaGreatDoorLvJ
namespace Go.Proofs.YtmclppkligkooaaGreatDoor
open Go.Ev Go.RowKit
set_option maxRecDepth 20000

theorem spPl_ok {T : ByteArray} {a e : Int} (hF : FnOK 0 Tryz.prog 41 ⟨[.string T, .int .i64 a]⟩ h0 (fun v _ => v = .int .i64 e)) : SpOK (spPl T a e) := by
  intro f args h v h' hs
  unfold spPl at hs
  obtain ⟨hf, hs2⟩ := cond_some hs
  clear hs
  have := Nat.eq_of_beq_eq_true hf
  subst this
  split at hs2
  · injection hs2 with hs
    injection hs with hb hs
    injection hs with hv hh
    subst hv hh
    rw [Bool.and_eq_true] at hb
    have b1 := eqV_eq hb.1
    have b2 := eqV_eq hb.2
    subst b1 b2
    exact ⟨FnOK.pure hF rfl rfl h, Nat.le_refl _⟩
  · cases hs2
theorem spSr_ok {T : ByteArray} {a : Int} {w : ByteArray} {e : Int} {ok : Bool} (hF : FnOK 0 Tryz.prog 42 ⟨[.string T, .int .i64 a]⟩ h0 (fun v _ => v = .tuple ⟨[.string w, .int .i64 e, .bool ok]⟩)) : SpOK (spSr T a w e ok) := by
  intro f args h v h' hs
  unfold spSr at hs
  obtain ⟨hf, hs2⟩ := cond_some hs
  clear hs
  have := Nat.eq_of_beq_eq_true hf
  subst this
  split at hs2
  · injection hs2 with hs
    injection hs with hb hs
    injection hs with hv hh
    subst hv hh
    rw [Bool.and_eq_true] at hb
    have b1 := eqV_eq hb.1
    have b2 := eqV_eq hb.2
    subst b1 b2
    exact ⟨FnOK.pure hF rfl rfl h, Nat.le_refl _⟩
  · cases hs2
theorem spIp_ok {w : ByteArray} (hF : FnOK 0 Tryz.prog 39 ⟨[.string w]⟩ h0 (fun v _ => v = .bool false)) : SpOK (spIp w) := by
  intro f args h v h' hs
  unfold spIp at hs
  obtain ⟨hf, hs2⟩ := cond_some hs
  clear hs
  have := Nat.eq_of_beq_eq_true hf
  subst this
  split at hs2
  · injection hs2 with hs
    injection hs with hb hs
    injection hs with hv hh
    subst hv hh
    have b1 := eqV_eq hb
    subst b1
    exact ⟨FnOK.pure hF rfl rfl h, Nat.le_refl _⟩
  · cases hs2
theorem spSm_ok {d : ByteArray} {x : Int} (hF : FnOK 0 Tryz.prog 44 ⟨[.string d]⟩ h0 (fun v _ => v = .tuple ⟨[.int .i64 x, .bool true]⟩)) : SpOK (spSm d x) := by
  intro f args h v h' hs
  unfold spSm at hs
  obtain ⟨hf, hs2⟩ := cond_some hs
  clear hs
  have := Nat.eq_of_beq_eq_true hf
  subst this
  split at hs2
  · injection hs2 with hs
    injection hs with hb hs
    injection hs with hv hh
    subst hv hh
    have b1 := eqV_eq hb
    subst b1
    exact ⟨FnOK.pure hF rfl rfl h, Nat.le_refl _⟩
  · cases hs2
theorem spIx_ok {u : ByteArray} {k : Int} (hF : ∀ H, CallOK Tryz.prog 43 ⟨[.string u, .int .u8 93]⟩ H (.int .i64 k) H) : SpOK (spIx u k) := by
  intro f args h v h' hs
  unfold spIx at hs
  obtain ⟨hf, hs2⟩ := cond_some hs
  clear hs
  have := Nat.eq_of_beq_eq_true hf
  subst this
  split at hs2
  · injection hs2 with hs
    injection hs with hb hs
    injection hs with hv hh
    subst hv hh
    rw [Bool.and_eq_true] at hb
    have b1 := eqV_eq hb.1
    have b2 := eqV_eq hb.2
    subst b1 b2
    exact ⟨hF h, Nat.le_refl _⟩
  · cases hs2
theorem ix_call {u : ByteArray} {k : Int} (hk : Lib.indexByte u.data.toList 93 = k) : ∀ H, CallOK Tryz.prog 43 ⟨[.string u, .int .u8 93]⟩ H (.int .i64 k) H := fun H =>
  flat_call (args := [.string u, .int .u8 93]) rfl rfl fun w => by
    have := Tryz.strings_IndexByte u 93 w
    have e : (93 : Int).toNat.toUInt8 = 93 := rfl
    rw [e, hk] at this
    refine this.mono ?_
    rintro e w' ⟨q1, q2⟩
    exact ⟨q1, q2 ▸ Below.refl _ _⟩
theorem someSM : Tryz.f44.body.isSome = true := by kernel_rfl
theorem sm_0 (Q : Value → Prop) : ffn Tryz.prog SPe [] 9000 [] Tryz.f44 [.string (bl [48])] h0 (fun v _ => Q v) = Q (.tuple ⟨[.int .i64 0, .bool true]⟩) := by kernel_rfl
theorem sm_1 (Q : Value → Prop) : ffn Tryz.prog SPe [] 9000 [] Tryz.f44 [.string (bl [49])] h0 (fun v _ => Q v) = Q (.tuple ⟨[.int .i64 1, .bool true]⟩) := by kernel_rfl
theorem sm_2 (Q : Value → Prop) : ffn Tryz.prog SPe [] 9000 [] Tryz.f44 [.string (bl [50])] h0 (fun v _ => Q v) = Q (.tuple ⟨[.int .i64 2, .bool true]⟩) := by kernel_rfl
theorem rs_fp (pre : List UInt8) {c : UInt8} (hc : wB (c.toNat : Int) = true) {rest : List UInt8} (hr : okR rest) (hl : pre.length + (46 :: c :: rest).length ≤ 90000) : FnOK 0 Tryz.prog 23 ⟨[.string (bl (pre ++ 46 :: c :: rest)), .int .i64 ((pre.length + 0 : Nat) : Int)]⟩ h0 (fun v _ => v = .tuple ⟨[stepV (true, [c], 0), .int .i64 ((pre.length + 2 : Nat) : Int), .bool true]⟩) := by
  have hll : (46 :: c :: rest).length = rest.length + 2 := rfl
  have e1 : (pre ++ [46]) ++ (c :: rest) = pre ++ (46 :: c :: rest) := by simp
  have e2 : (pre ++ [46]).length = pre.length + 1 := by simp
  have hb0 : bt (bl (pre ++ 46 :: c :: rest)) ((pre.length + 0 : Nat) : Int) = _ := btA pre (46 :: c :: rest) 0
  have hd0 : bd (bl (pre ++ 46 :: c :: rest)) ((pre.length + 0 : Nat) : Int) = true := bdA pre (46 :: c :: rest) (by simp)
  have hw0 : wp ((pre.length + 0 : Nat) : Int) = ((pre.length + 1 : Nat) : Int) := wpA (by omega)
  have hs : ((bl (pre ++ 46 :: c :: rest)).size : Int) = ((pre.length + (46 :: c :: rest).length : Nat) : Int) := szA pre (46 :: c :: rest)
  have hF := pl_fn (pre ++ [46]) hc hr (by rw [e2]; show _ + (rest.length + 1) ≤ _; omega)
  rw [e1, e2] at hF
  have hF : FnOK 0 Tryz.prog 41 ⟨[.string (bl (pre ++ 46 :: c :: rest)), .int .i64 ((pre.length + 1 : Nat) : Int)]⟩ h0 (fun v _ => v = .int .i64 ((pre.length + 2 : Nat) : Int)) := hF
  have hb0 : bt (bl (pre ++ 46 :: c :: rest)) ((pre.length + 0 : Nat) : Int) = 46 := hb0
  have hx := exA (pre ++ [46]) [c] rest (a := (((pre.length + 1 : Nat) : Int)).toNat) (b := (((pre.length + 2 : Nat) : Int)).toNat) (by rw [e2]; rfl) (by rw [e2]; rfl)
  have e3 : (pre ++ [46]) ++ ([c] ++ rest) = pre ++ 46 :: c :: rest := e1
  rw [e3] at hx
  have hg : decide (((pre.length + 2 : Nat) : Int) > ((pre.length + 1 : Nat) : Int)) = true := decide_eq_true (by omega)
  have e0 := rs_p (bl (pre ++ 46 :: c :: rest)) ((pre.length + 0 : Nat) : Int) ((pre.length + 2 : Nat) : Int) (fun v => v = .tuple ⟨[stepV (true, [c], 0), .int .i64 ((pre.length + 2 : Nat) : Int), .bool true]⟩)
  rw [hb0, hw0, hx, hg] at e0
  refine FnOK.ftree (spPl_ok hF).cfg mixed Tryz.func23 someRS e0 (nd_mk hd0 (nd_mk rfl (nd_mk (by rw [eqV_self, eqV_self]; rfl) (nd_mk ?_ rfl))))
  rw [Bool.and_eq_true, Bool.and_eq_true]
  exact ⟨⟨decide_eq_true (by omega), decide_eq_true (by omega)⟩, decide_eq_true (by omega)⟩
theorem rs_fe (pre rest : List UInt8) (hl : pre.length + (91 :: 34 :: 34 :: 93 :: rest).length ≤ 90000) : FnOK 0 Tryz.prog 23 ⟨[.string (bl (pre ++ 91 :: 34 :: 34 :: 93 :: rest)), .int .i64 ((pre.length + 0 : Nat) : Int)]⟩ h0 (fun v _ => v = .tuple ⟨[stepV (true, [], 0), .int .i64 ((pre.length + 4 : Nat) : Int), .bool true]⟩) := by
  have hll : (91 :: 34 :: 34 :: 93 :: rest).length = rest.length + 4 := rfl
  have e1 : (pre ++ [91]) ++ (34 :: 34 :: 93 :: rest) = pre ++ (91 :: 34 :: 34 :: 93 :: rest) := by simp
  have e2 : (pre ++ [91]).length = pre.length + 1 := by simp
  have hb0 : bt (bl (pre ++ 91 :: 34 :: 34 :: 93 :: rest)) ((pre.length + 0 : Nat) : Int) = _ := btA pre (91 :: 34 :: 34 :: 93 :: rest) 0
  have hd0 : bd (bl (pre ++ 91 :: 34 :: 34 :: 93 :: rest)) ((pre.length + 0 : Nat) : Int) = true := bdA pre (91 :: 34 :: 34 :: 93 :: rest) (by simp)
  have hb3 : bt (bl (pre ++ 91 :: 34 :: 34 :: 93 :: rest)) ((pre.length + 3 : Nat) : Int) = _ := btA pre (91 :: 34 :: 34 :: 93 :: rest) 3
  have hd3 : bd (bl (pre ++ 91 :: 34 :: 34 :: 93 :: rest)) ((pre.length + 3 : Nat) : Int) = true := bdA pre (91 :: 34 :: 34 :: 93 :: rest) (by simp)
  have hw0 : wp ((pre.length + 0 : Nat) : Int) = ((pre.length + 1 : Nat) : Int) := wpA (by omega)
  have hw3 : wp ((pre.length + 3 : Nat) : Int) = ((pre.length + 4 : Nat) : Int) := wpA (by omega)
  have hs : ((bl (pre ++ 91 :: 34 :: 34 :: 93 :: rest)).size : Int) = ((pre.length + (91 :: 34 :: 34 :: 93 :: rest).length : Nat) : Int) := szA pre (91 :: 34 :: 34 :: 93 :: rest)
  have hF := sr_fe (pre ++ [91]) (93 :: rest) (by rw [e2]; show _ + (rest.length + 3) ≤ _; omega)
  rw [e1, e2] at hF
  have hF : FnOK 0 Tryz.prog 42 ⟨[.string (bl (pre ++ 91 :: 34 :: 34 :: 93 :: rest)), .int .i64 ((pre.length + 1 : Nat) : Int)]⟩ h0 (fun v _ => v = .tuple ⟨[.string (bl []), .int .i64 ((pre.length + 3 : Nat) : Int), .bool true]⟩) := hF
  have hI : FnOK 0 Tryz.prog 39 ⟨[.string (bl [])]⟩ h0 (fun v _ => v = .bool false) := FnOK.ftree SPe_ok mixed Tryz.func39 someIP (ip_e (fun v => v = .bool false)) rfl
  have hb0 : bt (bl (pre ++ 91 :: 34 :: 34 :: 93 :: rest)) ((pre.length + 0 : Nat) : Int) = 91 := hb0
  have hb3 : bt (bl (pre ++ 91 :: 34 :: 34 :: 93 :: rest)) ((pre.length + 3 : Nat) : Int) = 93 := hb3
  have e0 := rs_s (bl (pre ++ 91 :: 34 :: 34 :: 93 :: rest)) ((pre.length + 0 : Nat) : Int) (bl []) ((pre.length + 3 : Nat) : Int) (fun v => v = .tuple ⟨[stepV (true, [], 0), .int .i64 ((pre.length + 4 : Nat) : Int), .bool true]⟩)
  rw [hb0, hw0, hb3, hw3] at e0
  exact FnOK.ftree ((spSr_ok hF).or (spIp_ok hI)).cfg mixed Tryz.func23 someRS e0 (nd_mk hd0 (nf_mk rfl (nd_mk hd0 (nf_mk rfl (nd_mk (by rw [eqV_self, eqV_self]; rfl) (nd_mk (eqV_self _) (nd_mk (decide_eq_true (by omega)) (nd_mk hd3 rfl))))))))
theorem rs_fc (pre rest : List UInt8) (hl : pre.length + (91 :: 34 :: 99 :: 32 :: 100 :: 34 :: 93 :: rest).length ≤ 90000) : FnOK 0 Tryz.prog 23 ⟨[.string (bl (pre ++ 91 :: 34 :: 99 :: 32 :: 100 :: 34 :: 93 :: rest)), .int .i64 ((pre.length + 0 : Nat) : Int)]⟩ h0 (fun v _ => v = .tuple ⟨[stepV (true, [99, 32, 100], 0), .int .i64 ((pre.length + 7 : Nat) : Int), .bool true]⟩) := by
  have hll : (91 :: 34 :: 99 :: 32 :: 100 :: 34 :: 93 :: rest).length = rest.length + 7 := rfl
  have e1 : (pre ++ [91]) ++ (34 :: 99 :: 32 :: 100 :: 34 :: 93 :: rest) = pre ++ (91 :: 34 :: 99 :: 32 :: 100 :: 34 :: 93 :: rest) := by simp
  have e2 : (pre ++ [91]).length = pre.length + 1 := by simp
  have hb0 : bt (bl (pre ++ 91 :: 34 :: 99 :: 32 :: 100 :: 34 :: 93 :: rest)) ((pre.length + 0 : Nat) : Int) = _ := btA pre (91 :: 34 :: 99 :: 32 :: 100 :: 34 :: 93 :: rest) 0
  have hd0 : bd (bl (pre ++ 91 :: 34 :: 99 :: 32 :: 100 :: 34 :: 93 :: rest)) ((pre.length + 0 : Nat) : Int) = true := bdA pre (91 :: 34 :: 99 :: 32 :: 100 :: 34 :: 93 :: rest) (by simp)
  have hb6 : bt (bl (pre ++ 91 :: 34 :: 99 :: 32 :: 100 :: 34 :: 93 :: rest)) ((pre.length + 6 : Nat) : Int) = _ := btA pre (91 :: 34 :: 99 :: 32 :: 100 :: 34 :: 93 :: rest) 6
  have hd6 : bd (bl (pre ++ 91 :: 34 :: 99 :: 32 :: 100 :: 34 :: 93 :: rest)) ((pre.length + 6 : Nat) : Int) = true := bdA pre (91 :: 34 :: 99 :: 32 :: 100 :: 34 :: 93 :: rest) (by simp)
  have hw0 : wp ((pre.length + 0 : Nat) : Int) = ((pre.length + 1 : Nat) : Int) := wpA (by omega)
  have hw6 : wp ((pre.length + 6 : Nat) : Int) = ((pre.length + 7 : Nat) : Int) := wpA (by omega)
  have hs : ((bl (pre ++ 91 :: 34 :: 99 :: 32 :: 100 :: 34 :: 93 :: rest)).size : Int) = ((pre.length + (91 :: 34 :: 99 :: 32 :: 100 :: 34 :: 93 :: rest).length : Nat) : Int) := szA pre (91 :: 34 :: 99 :: 32 :: 100 :: 34 :: 93 :: rest)
  have hF := sr_fc (pre ++ [91]) (93 :: rest) (by rw [e2]; show _ + (rest.length + 6) ≤ _; omega)
  rw [e1, e2] at hF
  have hF : FnOK 0 Tryz.prog 42 ⟨[.string (bl (pre ++ 91 :: 34 :: 99 :: 32 :: 100 :: 34 :: 93 :: rest)), .int .i64 ((pre.length + 1 : Nat) : Int)]⟩ h0 (fun v _ => v = .tuple ⟨[.string (bl [99, 32, 100]), .int .i64 ((pre.length + 6 : Nat) : Int), .bool true]⟩) := hF
  have hI : FnOK 0 Tryz.prog 39 ⟨[.string (bl [99, 32, 100])]⟩ h0 (fun v _ => v = .bool false) := FnOK.ftree SPe_ok mixed Tryz.func39 someIP (ip_c (fun v => v = .bool false)) rfl
  have hb0 : bt (bl (pre ++ 91 :: 34 :: 99 :: 32 :: 100 :: 34 :: 93 :: rest)) ((pre.length + 0 : Nat) : Int) = 91 := hb0
  have hb6 : bt (bl (pre ++ 91 :: 34 :: 99 :: 32 :: 100 :: 34 :: 93 :: rest)) ((pre.length + 6 : Nat) : Int) = 93 := hb6
  have e0 := rs_s (bl (pre ++ 91 :: 34 :: 99 :: 32 :: 100 :: 34 :: 93 :: rest)) ((pre.length + 0 : Nat) : Int) (bl [99, 32, 100]) ((pre.length + 6 : Nat) : Int) (fun v => v = .tuple ⟨[stepV (true, [99, 32, 100], 0), .int .i64 ((pre.length + 7 : Nat) : Int), .bool true]⟩)
  rw [hb0, hw0, hb6, hw6] at e0
  exact FnOK.ftree ((spSr_ok hF).or (spIp_ok hI)).cfg mixed Tryz.func23 someRS e0 (nd_mk hd0 (nf_mk rfl (nd_mk hd0 (nf_mk rfl (nd_mk (by rw [eqV_self, eqV_self]; rfl) (nd_mk (eqV_self _) (nd_mk (decide_eq_true (by omega)) (nd_mk hd6 rfl))))))))
theorem rs_fi (pre : List UInt8) {d : UInt8} {x : Int} (hd : ((d.toNat : Int) != 34) = true) (hd2 : d ≠ 93) (hx0 : 0 ≤ x) (hS : FnOK 0 Tryz.prog 44 ⟨[.string (bl [d])]⟩ h0 (fun v _ => v = .tuple ⟨[.int .i64 x, .bool true]⟩)) (rest : List UInt8) (hl : pre.length + (91 :: d :: 93 :: rest).length ≤ 90000) : FnOK 0 Tryz.prog 23 ⟨[.string (bl (pre ++ 91 :: d :: 93 :: rest)), .int .i64 ((pre.length + 0 : Nat) : Int)]⟩ h0 (fun v _ => v = .tuple ⟨[stepV (false, [], x), .int .i64 ((pre.length + 3 : Nat) : Int), .bool true]⟩) := by
  have hll : (91 :: d :: 93 :: rest).length = rest.length + 3 := rfl
  have e1 : (pre ++ [91]) ++ (d :: 93 :: rest) = pre ++ (91 :: d :: 93 :: rest) := by simp
  have e2 : (pre ++ [91]).length = pre.length + 1 := by simp
  have hb0 : bt (bl (pre ++ 91 :: d :: 93 :: rest)) ((pre.length + 0 : Nat) : Int) = _ := btA pre (91 :: d :: 93 :: rest) 0
  have hd0 : bd (bl (pre ++ 91 :: d :: 93 :: rest)) ((pre.length + 0 : Nat) : Int) = true := bdA pre (91 :: d :: 93 :: rest) (by simp)
  have hw0 : wp ((pre.length + 0 : Nat) : Int) = ((pre.length + 1 : Nat) : Int) := wpA (by omega)
  have hw2 : wp ((pre.length + 2 : Nat) : Int) = ((pre.length + 3 : Nat) : Int) := wpA (by omega)
  have hs : ((bl (pre ++ 91 :: d :: 93 :: rest)).size : Int) = ((pre.length + (91 :: d :: 93 :: rest).length : Nat) : Int) := szA pre (91 :: d :: 93 :: rest)
  have hF := sr_fn0 (pre ++ [91]) hd (93 :: rest) (by rw [e2]; show _ + (rest.length + 2) ≤ _; omega)
  rw [e1, e2] at hF
  have hF : FnOK 0 Tryz.prog 42 ⟨[.string (bl (pre ++ 91 :: d :: 93 :: rest)), .int .i64 ((pre.length + 1 : Nat) : Int)]⟩ h0 (fun v _ => v = .tuple ⟨[.string ⟨#[]⟩, .int .i64 0, .bool false]⟩) := hF
  have hb0 : bt (bl (pre ++ 91 :: d :: 93 :: rest)) ((pre.length + 0 : Nat) : Int) = 91 := hb0
  have hx := exA (pre ++ [91]) [d] (93 :: rest) (a := (((pre.length + 1 : Nat) : Int)).toNat) (b := (((pre.length + 2 : Nat) : Int)).toNat) (by rw [e2]; rfl) (by rw [e2]; rfl)
  have e3 : (pre ++ [91]) ++ ([d] ++ 93 :: rest) = pre ++ 91 :: d :: 93 :: rest := e1
  rw [e3] at hx
  have hu : (bl (pre ++ 91 :: d :: 93 :: rest)).extract (((pre.length + 0 : Nat) : Int)).toNat ((bl (pre ++ 91 :: d :: 93 :: rest)).size : Int).toNat = bl (91 :: d :: 93 :: rest) := by
    rw [Int.toNat_natCast, Int.toNat_natCast, bl_size, bl_cut _ _ _ (Nat.le_refl _), List.take_length]
    congr 1
    simp
  have hk : Lib.indexByte (bl (91 :: d :: 93 :: rest)).data.toList 93 = 2 := by
    rw [bl_list]
    have k3 : Lib.indexByte (93 :: rest) 93 = 0 := rfl
    have k2 : Lib.indexByte (d :: 93 :: rest) 93 = 1 := by
      unfold Lib.indexByte
      rw [k3, if_neg (by simpa using hd2)]
      rfl
    unfold Lib.indexByte
    rw [k2]
    rfl
  have hw : IntKind.i64.wrap (((pre.length + 0 : Nat) : Int) + 2) = ((pre.length + 2 : Nat) : Int) := by
    rw [wrap_id _ (by omega) (by omega)]
    rfl
  have e0 := rs_i (bl (pre ++ 91 :: d :: 93 :: rest)) ((pre.length + 0 : Nat) : Int) (bl (91 :: d :: 93 :: rest)) (bl [d]) 2 x (fun v => v = .tuple ⟨[stepV (false, [], x), .int .i64 ((pre.length + 3 : Nat) : Int), .bool true]⟩)
  rw [hu, hb0, hw0, hw, hx, hw2, decide_eq_true (show x ≥ 0 from hx0)] at e0
  refine FnOK.ftree ((spSr_ok hF).or ((spIx_ok (ix_call hk)).or (spSm_ok hS))).cfg mixed Tryz.func23 someRS e0 (nd_mk hd0 (nf_mk rfl (nd_mk hd0 (nf_mk rfl (nd_mk (by rw [eqV_self, eqV_self]; rfl) (nd_mk ?_ (nd_mk (by rw [eqV_self, eqV_self]; rfl) (nf_mk rfl (nd_mk ?_ (nd_mk (eqV_self _) rfl))))))))))
  · rw [Bool.and_eq_true, Bool.and_eq_true]
    exact ⟨⟨decide_eq_true (by omega), decide_eq_true (by omega)⟩, decide_eq_true (by omega)⟩
  · rw [Bool.and_eq_true, Bool.and_eq_true]
    exact ⟨⟨decide_eq_true (by omega), decide_eq_true (by omega)⟩, decide_eq_true (by omega)⟩
theorem rs_fn (pre : List UInt8) {s : ValLaw.Stp} (h : s ∈ ValLaw.stepsU) {rest : List UInt8} (hr : okR rest) (hl : pre.length + (ValLaw.stT s ++ rest).length ≤ 90000) : FnOK 0 Tryz.prog 23 ⟨[.string (bl (pre ++ (ValLaw.stT s ++ rest))), .int .i64 ((pre.length : Nat) : Int)]⟩ h0 (fun v _ => v = .tuple ⟨[stepV s, .int .i64 ((pre.length + (ValLaw.stT s).length : Nat) : Int), .bool true]⟩) := by
  simp only [ValLaw.stepsU, List.mem_cons, List.not_mem_nil, or_false] at h
  rcases h with rfl | rfl | rfl | rfl | rfl | rfl | rfl | rfl | rfl
  · exact rs_fe pre rest hl
  · exact rs_fp pre (c := 97) rfl hr hl
  · exact rs_fp pre (c := 98) rfl hr hl
  · exact rs_fc pre rest hl
  · exact rs_fp pre (c := 110) rfl hr hl
  · exact rs_fp pre (c := 115) rfl hr hl
  · exact rs_fi pre (d := 48) rfl (by decide) (by decide) (FnOK.ftree SPe_ok mixed Tryz.func44 someSM (sm_0 (fun v => v = .tuple ⟨[.int .i64 0, .bool true]⟩)) rfl) rest hl
  · exact rs_fi pre (d := 49) rfl (by decide) (by decide) (FnOK.ftree SPe_ok mixed Tryz.func44 someSM (sm_1 (fun v => v = .tuple ⟨[.int .i64 1, .bool true]⟩)) rfl) rest hl
  · exact rs_fi pre (d := 50) rfl (by decide) (by decide) (FnOK.ftree SPe_ok mixed Tryz.func44 someSM (sm_2 (fun v => v = .tuple ⟨[.int .i64 2, .bool true]⟩)) rfl) rest hl
end Go.Proofs.YtmclppkligkooaaGreatDoor
