/-
  Paths: PathText, slices.Equal: what they return.
-/
import Derived.Test.YtmclppkligkooaaGreatDoorLvG
namespace Go.Ev
open Go.RowKit
theorem FnOK.empty2 {p : Nat} {P : Program} {f : FuncId} {u : Value} {h : AH} {Q : Value → AH → Prop} (h1 : ∀ c, FnOK p P f ⟨[u, .slice none 0 c]⟩ h Q) (h2 : FnOK p P f ⟨[u, ez]⟩ h Q) : FnOK p P f ⟨[u, fz ⟨[]⟩]⟩ h Q := by
  refine FnOK.refine fun N args' hcr => ?_
  obtain ⟨u0, v0, rfl, hu, hv⟩ := two_args hcr
  have mk : ∀ x, VRel N x v0 → CRel N ⟨[u, x]⟩ #[u0, v0] := fun x hx => by
    refine ⟨rfl, fun i y z p q => ?_⟩
    match i, p, q with
    | 0, p, q =>
      simp at p q
      subst p q
      exact hu
    | 1, p, q =>
      simp at p q
      subst p q
      exact hx
    | n + 2, p, q => simp at p
  have go : ∀ a c, v0 = .slice a 0 c → ∃ args2, FnOK p P f args2 h Q ∧ CRel N args2 #[u0, v0] := by
    intro a c e
    cases a with
    | none => exact ⟨_, h1 c, mk _ (by rw [e]; exact .slice0 0 c)⟩
    | some a => exact ⟨_, h2, mk _ (by rw [e]; exact .ez a c)⟩
  rcases VRel.inv_fz hv with ⟨_, a, c, e⟩ | ⟨s, b, o, c, cs, _, _, _, _, _, e⟩
  · exact go a c e
  · exact go _ c e
end Go.Ev
namespace Go.Proofs.YtmclppkligkooaaGreatDoor
open Go.Ev Go.RowKit
set_option maxRecDepth 20000

theorem by_p1 (l : List UInt8) : (l.map byV).all p1 = true := by
  rw [List.all_eq_true]
  intro v hv
  obtain ⟨b, _, rfl⟩ := List.mem_map.1 hv
  rfl
theorem by_one (l : List UInt8) : (l.map byV).all oneCell = true := by
  rw [List.all_eq_true]
  intro v hv
  obtain ⟨b, _, rfl⟩ := List.mem_map.1 hv
  rfl
theorem bl_size (l : List UInt8) : (bl l).size = l.length := by
  show (bl l).data.size = _
  simp [bl]
theorem wrS_mk {cs : List Value} {j : Nat} {s : List UInt8} {K : List Value → Nat → Prop} (hl : cs.length = j) (hp : cs.all p1 = true) (hs : s ≠ []) (hj : j + s.length ≤ 200000) (hK : K (cs ++ s.map byV) (j + s.length)) : wrS cs j (bl s) K := by
  have hs : 0 < s.length := List.length_pos_iff.2 hs
  unfold wrS
  rw [bl_size, bl_list]
  refine pick_f ?_ (need_mk ?_ (need_mk ?_ ?_))
  · cases h : Nat.ble (j + s.length) j with
    | false => rfl
    | true => have := Nat.le_of_ble_eq_true h; omega
  · rw [Bool.and_eq_true, Nat.ble_eq, Nat.ble_eq]; omega
  · have : Nat.ble (0 + j * 1) (Array.mk cs).size = true := by rw [Nat.ble_eq]; show 0 + j * 1 ≤ cs.length; omega
    rw [this, by_one]; rfl
  · have e : List.take (j * 1) (List.drop 0 (Array.mk cs).toList) = cs := by rw [List.drop_zero, Nat.mul_one, ← hl]; exact List.take_length
    rw [e]
    exact hK
theorem wr0_mk {s : List UInt8} {K : List Value → Nat → Prop} (hs : s ≠ []) (hj : s.length ≤ 200000) (hK : K (s.map byV) s.length) : wr0 (bl s) K := by
  have hs : 0 < s.length := List.length_pos_iff.2 hs
  unfold wr0
  rw [bl_size, bl_list]
  refine pick_f ?_ (need_mk ?_ hK)
  · cases h : Nat.ble (0 + s.length) 0 with
    | false => rfl
    | true => have := Nat.le_of_ble_eq_true h; omega
  · rw [Bool.and_eq_true, Nat.ble_eq, Nat.ble_eq]; omega
theorem to_bytes (t : List UInt8) : (t.map byV).map toByte = t := by
  rw [List.map_map]
  have : (toByte ∘ byV) = id := by
    funext b
    show UInt8.ofNat _ = b
    simp
  rw [this, List.map_id]
theorem is_bytes (t : List UInt8) : (t.map byV).all isByte = true := by
  rw [List.all_eq_true]
  intro v hv
  obtain ⟨b, _, rfl⟩ := List.mem_map.1 hv
  have := b.toNat_lt
  simp [isByte, byV]
  omega

theorem st_len {s : ValLaw.Stp} (h : s ∈ ValLaw.stepsU) : (ValLaw.stT s).length ≤ 8 := by
  have key : ∀ s ∈ ValLaw.stepsU, (ValLaw.stT s).length ≤ 8 := by decide
  exact key s h
theorem st_ne {s : ValLaw.Stp} (h : s ∈ ValLaw.stepsU) : ValLaw.stT s ≠ [] := by
  have key : ∀ s ∈ ValLaw.stepsU, ValLaw.stT s ≠ [] := by decide
  exact key s h
theorem pt_ne {s : ValLaw.Stp} (h : s ∈ ValLaw.stepsU) (p : List ValLaw.Stp) : ValLaw.pathT (s :: p) ≠ [] := by
  intro q
  have q : ValLaw.stT s ++ ValLaw.pathT p = [] := q
  exact st_ne h (List.append_eq_nil_iff.1 q).1
theorem okS_mk {s : ValLaw.Stp} (h : s ∈ ValLaw.stepsU) : okS s.1 (bl s.2.1) s.2.2 = true := decide_eq_true h
theorem fin_mk {cs : List Value} {j : Nat} {Q : Value → Prop} {t : List UInt8} (hcs : cs = t.map byV) (hj : j = t.length) (hne : t ≠ []) (hlt : t.length ≤ 200000) (hQ : Q (.tuple ⟨[.string (bl t), .int .i64 0]⟩)) : finS cs j Q := by
  subst hcs hj
  have hp : 0 < t.length := List.length_pos_iff.2 hne
  have et : List.take ((t.length : Int)).toNat (List.drop 0 (Array.mk (t.map byV)).toList) = t.map byV := by
    rw [List.drop_zero, Int.toNat_natCast]
    exact List.take_of_length_le (by show (t.map byV).length ≤ _; rw [List.length_map]; exact Nat.le_refl _)
  unfold finS
  rw [et, is_bytes, to_bytes]
  refine need_mk (Nat.ble_eq_true_of_le hp) (need_mk ?_ hQ)
  have : (0 + ((t.length : Int)).toNat).ble (Array.mk (t.map byV)).size = true := by
    rw [Nat.ble_eq, Int.toNat_natCast]; show 0 + t.length ≤ (t.map byV).length; rw [List.length_map]; omega
  rw [this, decide_eq_true (by omega), decide_eq_true (by omega)]
  rfl
theorem spSt_ok : SpOK spSt := by
  intro f args h v h' hs
  unfold spSt at hs
  obtain ⟨hf, hs2⟩ := cond_some hs
  clear hs
  have := Nat.eq_of_beq_eq_true hf
  subst this
  split at hs2
  · rename_i b s a
    injection hs2 with hs
    injection hs with hb hs
    injection hs with hv hh
    subst hv hh
    have hF := sx_fn _ (of_decide_eq_true hb)
    exact ⟨FnOK.pure hF rfl rfl h, Nat.le_refl _⟩
  · cases hs2
theorem spCp_ok {p : List ValLaw.Stp} (hF : FnOK 0 Tryz.prog 17 ⟨[pathV p]⟩ h0 (fun v _ => v = .int .i64 0)) : SpOK (spCp (pathV p)) := by
  intro f args h v h' hs
  unfold spCp at hs
  obtain ⟨hf, hs2⟩ := cond_some hs
  clear hs
  have := Nat.eq_of_beq_eq_true hf
  subst this
  split at hs2
  · injection hs2 with hs
    injection hs with hb hs
    injection hs with hv hh
    subst hv hh
    have hb := eqV_eq hb
    subst hb
    exact ⟨FnOK.pure hF rfl rfl h, Nat.le_refl _⟩
  · cases hs2
theorem SPt_ok {p : List ValLaw.Stp} (hF : FnOK 0 Tryz.prog 17 ⟨[pathV p]⟩ h0 (fun v _ => v = .int .i64 0)) : (SPt (pathV p)).cfg.OK Tryz.prog := ((spCp_ok hF).or spSt_ok).cfg
def ptR (p : List ValLaw.Stp) : Value := .tuple ⟨[.string (bl (ValLaw.pathT p)), .int .i64 0]⟩
theorem pt_f0 (p : List ValLaw.Stp) (hl : p.length = 0) : FnOK 0 Tryz.prog 7 ⟨[pathV p]⟩ h0 (fun v _ => v = ptR p) := by
  obtain rfl : p = [] := List.length_eq_zero_iff.1 hl
  refine FnOK.empty (fun c => ?_) ?_
  · exact FnOK.ftree SPe_ok mixed Tryz.func7 somePT (pt_nil c (fun v => v = ptR [])) rfl
  · exact FnOK.ttree SPe_ok mixed Tryz.func7 somePT (ghosts_one (by kernel_rfl) (unezG_ok _ _ _ _)) (pt_ez (fun v => v = ptR [])) rfl
theorem pt_f1 (p : List ValLaw.Stp) (hl : p.length = 1) (hp : okP p) : FnOK 0 Tryz.prog 7 ⟨[pathV p]⟩ h0 (fun v _ => v = ptR p) := by
  have hc := ck_fn hp
  match p, hl, hp, hc with
  | [x0], _, hp, hc =>
    have h0 := hp.2 x0 (by simp)
    have l0 := st_len h0
    exact FnOK.ftree (SPt_ok hc) mixed Tryz.func7 somePT (pt_1 x0.1 (bl x0.2.1) x0.2.2 (fun v => v = ptR [x0])) (need_mk (eqV_self _) ⟨rfl, need_mk (okS_mk h0) (wr0_mk (s := ValLaw.stT x0) (st_ne h0) (by omega) (fin_mk (t := ValLaw.pathT [x0]) (by simp [ValLaw.pathT]) (by simp [ValLaw.pathT]; try omega) (pt_ne h0 _) (by simp [ValLaw.pathT]; try omega) rfl))⟩)
theorem pt_f2 (p : List ValLaw.Stp) (hl : p.length = 2) (hp : okP p) : FnOK 0 Tryz.prog 7 ⟨[pathV p]⟩ h0 (fun v _ => v = ptR p) := by
  have hc := ck_fn hp
  match p, hl, hp, hc with
  | [x0, x1], _, hp, hc =>
    have h0 := hp.2 x0 (by simp)
    have l0 := st_len h0
    have h1 := hp.2 x1 (by simp)
    have l1 := st_len h1
    exact FnOK.ftree (SPt_ok hc) mixed Tryz.func7 somePT (pt_2 x0.1 (bl x0.2.1) x0.2.2 x1.1 (bl x1.2.1) x1.2.2 (fun v => v = ptR [x0, x1])) (need_mk (eqV_self _) ⟨rfl, need_mk (okS_mk h0) (wr0_mk (s := ValLaw.stT x0) (st_ne h0) (by omega) ⟨rfl, need_mk (okS_mk h1) (wrS_mk (s := ValLaw.stT x1) (by simp; try omega) (by_p1 _) (st_ne h1) (by omega) (fin_mk (t := ValLaw.pathT [x0, x1]) (by simp [ValLaw.pathT]) (by simp [ValLaw.pathT]; try omega) (pt_ne h0 _) (by simp [ValLaw.pathT]; try omega) rfl))⟩)⟩)
theorem pt_f3 (p : List ValLaw.Stp) (hl : p.length = 3) (hp : okP p) : FnOK 0 Tryz.prog 7 ⟨[pathV p]⟩ h0 (fun v _ => v = ptR p) := by
  have hc := ck_fn hp
  match p, hl, hp, hc with
  | [x0, x1, x2], _, hp, hc =>
    have h0 := hp.2 x0 (by simp)
    have l0 := st_len h0
    have h1 := hp.2 x1 (by simp)
    have l1 := st_len h1
    have h2 := hp.2 x2 (by simp)
    have l2 := st_len h2
    exact FnOK.ftree (SPt_ok hc) mixed Tryz.func7 somePT (pt_3 x0.1 (bl x0.2.1) x0.2.2 x1.1 (bl x1.2.1) x1.2.2 x2.1 (bl x2.2.1) x2.2.2 (fun v => v = ptR [x0, x1, x2])) (need_mk (eqV_self _) ⟨rfl, need_mk (okS_mk h0) (wr0_mk (s := ValLaw.stT x0) (st_ne h0) (by omega) ⟨rfl, need_mk (okS_mk h1) (wrS_mk (s := ValLaw.stT x1) (by simp; try omega) (by_p1 _) (st_ne h1) (by omega) ⟨rfl, need_mk (okS_mk h2) (wrS_mk (s := ValLaw.stT x2) (by simp; try omega) (by rw [List.all_append, by_p1, by_p1]; rfl) (st_ne h2) (by omega) (fin_mk (t := ValLaw.pathT [x0, x1, x2]) (by simp [ValLaw.pathT]) (by simp [ValLaw.pathT]; try omega) (pt_ne h0 _) (by simp [ValLaw.pathT]; try omega) rfl))⟩)⟩)⟩)
theorem pt_fn {p : List ValLaw.Stp} (hp : okP p) : FnOK 0 Tryz.prog 7 ⟨[pathV p]⟩ h0 (fun v _ => v = ptR p) := by
  have : p.length = 0 ∨ p.length = 1 ∨ p.length = 2 ∨ p.length = 3 := by have := hp.1; omega
  rcases this with q | q | q | q
  · exact pt_f0 p q
  · exact pt_f1 p q hp
  · exact pt_f2 p q hp
  · exact pt_f3 p q hp
theorem eq_f0 (p : List ValLaw.Stp) (hl : p.length = 0) : FnOK 0 Tryz.prog 9 ⟨[pathV p, pathV p]⟩ h0 (fun v _ => v = .bool true) := by
  obtain rfl : p = [] := List.length_eq_zero_iff.1 hl
  refine FnOK.empty (rest := [fz ⟨[]⟩]) (fun c => FnOK.empty2 (fun d => ?_) ?_) (FnOK.empty2 (fun d => ?_) ?_)
  · exact FnOK.ftree SPe_ok mixed Tryz.func9 someEQ (eq_nil c d (fun v => v = .bool true)) rfl
  · exact FnOK.ttree SPe_ok mixed Tryz.func9 someEQ (ghosts_one (by kernel_rfl) (unezG_ok _ _ _ _)) (eq_ne c (fun v => v = .bool true)) rfl
  · exact FnOK.ttree SPe_ok mixed Tryz.func9 someEQ (ghosts_one (by kernel_rfl) (unezG_ok _ _ _ _)) (eq_en d (fun v => v = .bool true)) rfl
  · exact FnOK.ttree SPe_ok mixed Tryz.func9 someEQ (ghosts_one (by kernel_rfl) (thenG_ok (unezG_ok _ _ _ _) (unezG_ok _ _ _ _))) (eq_ez (fun v => v = .bool true)) rfl
theorem eq_f1 (p : List ValLaw.Stp) (hl : p.length = 1) : FnOK 0 Tryz.prog 9 ⟨[pathV p, pathV p]⟩ h0 (fun v _ => v = .bool true) := by
  match p, hl with
  | [x0], _ => exact FnOK.ftree SPe_ok mixed Tryz.func9 someEQ (eq_1 x0.1 (bl x0.2.1) x0.2.2 (fun v => v = .bool true)) (pick_f (eqT_f _ _ _) (rfl))
theorem eq_f2 (p : List ValLaw.Stp) (hl : p.length = 2) : FnOK 0 Tryz.prog 9 ⟨[pathV p, pathV p]⟩ h0 (fun v _ => v = .bool true) := by
  match p, hl with
  | [x0, x1], _ => exact FnOK.ftree SPe_ok mixed Tryz.func9 someEQ (eq_2 x0.1 (bl x0.2.1) x0.2.2 x1.1 (bl x1.2.1) x1.2.2 (fun v => v = .bool true)) (pick_f (eqT_f _ _ _) (pick_f (eqT_f _ _ _) (rfl)))
theorem eq_f3 (p : List ValLaw.Stp) (hl : p.length = 3) : FnOK 0 Tryz.prog 9 ⟨[pathV p, pathV p]⟩ h0 (fun v _ => v = .bool true) := by
  match p, hl with
  | [x0, x1, x2], _ => exact FnOK.ftree SPe_ok mixed Tryz.func9 someEQ (eq_3 x0.1 (bl x0.2.1) x0.2.2 x1.1 (bl x1.2.1) x1.2.2 x2.1 (bl x2.2.1) x2.2.2 (fun v => v = .bool true)) (pick_f (eqT_f _ _ _) (pick_f (eqT_f _ _ _) (pick_f (eqT_f _ _ _) (rfl))))
theorem eq_fn {p : List ValLaw.Stp} (hp : p.length ≤ 3) : FnOK 0 Tryz.prog 9 ⟨[pathV p, pathV p]⟩ h0 (fun v _ => v = .bool true) := by
  have : p.length = 0 ∨ p.length = 1 ∨ p.length = 2 ∨ p.length = 3 := by omega
  rcases this with q | q | q | q
  · exact eq_f0 p q
  · exact eq_f1 p q
  · exact eq_f2 p q
  · exact eq_f3 p q
end Go.Proofs.YtmclppkligkooaaGreatDoor
