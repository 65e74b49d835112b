/-
  Headers: Clone, without, joined, Concat as specifications.
-/
import Derived.Test.YtfjfdemnnhfmoaaGreatDoorHoB
import Derived.Test.YtfjfdemnnhfmoaaGreatDoorHeadE
namespace Go.Proofs.YtfjfdemnnhfmoaaGreatDoor
open Go.Ev Go.RowKit RecLaw PathLaw HopLaw

noncomputable def SN : SC := ⟨idn, fun _ _ _ => none, true, false⟩
theorem SN_ok : SN.cfg.OK Tryz.prog := none_ok.cfg
theorem clh_ez (Q : Value → Option Obj → Prop) : tfn Tryz.prog SN [] (ghost1 1 (unezG 8 0)) 600 [] Tryz.f63 [ez] h0 (fun v h => Q v (h.get 0)) = Q (.slice (some ⟨0, 0, none⟩) 0 0) (some (.cells ⟨[]⟩ 99 (0, 0))) := by kernel_rfl
theorem clh_some : Tryz.f63.body.isSome = true := by kernel_rfl
theorem clh_ezfn : FnOK 0 Tryz.prog 63 ⟨[ez]⟩ h0 (fun v h => v = .slice (some ⟨0, 0, none⟩) 0 0 ∧ h.get 0 = some (.cells ⟨[]⟩ 99 (0, 0))) :=
  FnOK.ttree SN_ok mixed Tryz.func63 clh_some (ghosts_one (by kernel_rfl) (unezG_ok _ _ _ _)) (clh_ez (fun v o => v = .slice (some ⟨0, 0, none⟩) 0 0 ∧ o = some (.cells ⟨[]⟩ 99 (0, 0)))) ⟨rfl, rfl⟩
def spEzH (f : FuncId) (args : Array Value) (h : AH) : Option (Bool × Value × AH) :=
  cond (Nat.beq f 63) (match args with
    | ⟨[.func (.yield 3) ⟨[]⟩ ⟨[]⟩]⟩ => some (true, .slice (some ⟨h.next, 0, none⟩) 0 0, h.push (.cells ⟨[]⟩ 99 (0, 0)))
    | _ => none) none
theorem spEzH_ok : SpOK spEzH := by
  intro f args h v h' hs
  unfold spEzH at hs
  obtain ⟨hf, hs2⟩ := cond_some hs
  clear hs
  have := Nat.eq_of_beq_eq_true hf
  subst this
  split at hs2
  · injection hs2 with hs
    injection hs with hb hs
    injection hs with hv hh
    subst hv hh
    refine ⟨FnOK.new1 (args := [ez]) (u := .slice (some ⟨0, 0, none⟩) 0 0) (cs := []) (clh_ezfn.mono ?_) rfl (by simp) rfl, Nat.le_succ _⟩
    rintro v g ⟨rfl, hg⟩
    exact ⟨0, rfl, hg⟩
  · cases hs2
theorem cls_ez (Q : Value → Option Obj → Prop) : tfn Tryz.prog SN [] (ghost1 1 (unezG 8 0)) 600 [] Tryz.f134 [ez] h0 (fun v h => Q v (h.get 0)) = Q (.slice (some ⟨0, 0, none⟩) 0 0) (some (.cells ⟨[]⟩ 9 (0, 0))) := by kernel_rfl
theorem cls_some : Tryz.f134.body.isSome = true := by kernel_rfl
theorem cls_ezfn : FnOK 0 Tryz.prog 134 ⟨[ez]⟩ h0 (fun v h => v = .slice (some ⟨0, 0, none⟩) 0 0 ∧ h.get 0 = some (.cells ⟨[]⟩ 9 (0, 0))) :=
  FnOK.ttree SN_ok mixed Tryz.func134 cls_some (ghosts_one (by kernel_rfl) (unezG_ok _ _ _ _)) (cls_ez (fun v o => v = .slice (some ⟨0, 0, none⟩) 0 0 ∧ o = some (.cells ⟨[]⟩ 9 (0, 0)))) ⟨rfl, rfl⟩
def spEzS (f : FuncId) (args : Array Value) (h : AH) : Option (Bool × Value × AH) :=
  cond (Nat.beq f 134) (match args with
    | ⟨[.func (.yield 3) ⟨[]⟩ ⟨[]⟩]⟩ => some (true, .slice (some ⟨h.next, 0, none⟩) 0 0, h.push (.cells ⟨[]⟩ 9 (0, 0)))
    | _ => none) none
theorem spEzS_ok : SpOK spEzS := by
  intro f args h v h' hs
  unfold spEzS at hs
  obtain ⟨hf, hs2⟩ := cond_some hs
  clear hs
  have := Nat.eq_of_beq_eq_true hf
  subst this
  split at hs2
  · injection hs2 with hs
    injection hs with hb hs
    injection hs with hv hh
    subst hv hh
    refine ⟨FnOK.new1 (args := [ez]) (u := .slice (some ⟨0, 0, none⟩) 0 0) (cs := []) (cls_ezfn.mono ?_) rfl (by simp) rfl, Nat.le_succ _⟩
    rintro v g ⟨rfl, hg⟩
    exact ⟨0, rfl, hg⟩
  · cases hs2

/-! Clone of headers -/
theorem nil_fn {f : FuncId} {args : Array Value} (hF : FnOK 0 Tryz.prog f args h0 (fun v _ => v = .slice none 0 0)) : FnOK 0 Tryz.prog f args h0 (fun v _ => v = fz ⟨[]⟩) :=
  FnOK.weak1 (hF.mono fun v g e => by subst e; exact ⟨_, _, nil1, rfl⟩)
theorem clh_nil (c : Nat) (Q : Value → Prop) : ffn Tryz.prog SN [] 600 [] Tryz.f63 [.slice none 0 c] h0 (fun v _ => Q v) = Q (.slice none 0 0) := by kernel_rfl
theorem clh1 (a1 b1 : ByteArray) (Q : Value → Option Obj → Prop) : ffn Tryz.prog SN [] 600 [] Tryz.f63 [fz ⟨[.agg ⟨[.string a1, .string b1]⟩]⟩] h0 (fun v h => Q v (h.get 1)) = Q (.slice (some ⟨1, 0, none⟩) 1 1) (some (.cells ⟨[.string a1, .string b1]⟩ 99 (0, 0))) := by kernel_rfl
theorem clh2 (a1 b1 a2 b2 : ByteArray) (Q : Value → Option Obj → Prop) : ffn Tryz.prog SN [] 600 [] Tryz.f63 [fz ⟨[.agg ⟨[.string a1, .string b1]⟩, .agg ⟨[.string a2, .string b2]⟩]⟩] h0 (fun v h => Q v (h.get 1)) = Q (.slice (some ⟨1, 0, none⟩) 2 2) (some (.cells ⟨[.string a1, .string b1, .string a2, .string b2]⟩ 99 (0, 0))) := by kernel_rfl
theorem clh3 (a1 b1 a2 b2 a3 b3 : ByteArray) (Q : Value → Option Obj → Prop) : ffn Tryz.prog SN [] 600 [] Tryz.f63 [fz ⟨[.agg ⟨[.string a1, .string b1]⟩, .agg ⟨[.string a2, .string b2]⟩, .agg ⟨[.string a3, .string b3]⟩]⟩] h0 (fun v h => Q v (h.get 1)) = Q (.slice (some ⟨1, 0, none⟩) 3 3) (some (.cells ⟨[.string a1, .string b1, .string a2, .string b2, .string a3, .string b3]⟩ 99 (0, 0))) := by kernel_rfl
theorem clh4 (a1 b1 a2 b2 a3 b3 a4 b4 : ByteArray) (Q : Value → Option Obj → Prop) : ffn Tryz.prog SN [] 600 [] Tryz.f63 [fz ⟨[.agg ⟨[.string a1, .string b1]⟩, .agg ⟨[.string a2, .string b2]⟩, .agg ⟨[.string a3, .string b3]⟩, .agg ⟨[.string a4, .string b4]⟩]⟩] h0 (fun v h => Q v (h.get 1)) = Q (.slice (some ⟨1, 0, none⟩) 4 4) (some (.cells ⟨[.string a1, .string b1, .string a2, .string b2, .string a3, .string b3, .string a4, .string b4]⟩ 99 (0, 0))) := by kernel_rfl
theorem clh_fn : ∀ l : List (ByteArray × ByteArray), l.length ≤ 4 → FnOK 0 Tryz.prog 63 ⟨[fz ⟨l.map hv⟩]⟩ h0 (fun v _ => v = fz ⟨l.map hv⟩)
  | [], _ => FnOK.empty (fun c => nil_fn (FnOK.ftree SN_ok mixed Tryz.func63 clh_some (clh_nil c (fun v => v = .slice none 0 0)) rfl)) (FnOK.weak1 (clh_ezfn.mono fun v g ⟨e, hg⟩ => by subst e; exact ⟨_, _, freezeH (l := []) rfl hg, rfl⟩))
  | [(a1, b1)], _ => FnOK.weak1 ((FnOK.ftree SN_ok mixed Tryz.func63 clh_some (clh1 a1 b1 (fun v o => v = .slice (some ⟨1, 0, none⟩) 1 1 ∧ o = some (.cells ⟨[.string a1, .string b1]⟩ 99 (0, 0)))) ⟨rfl, rfl⟩).mono fun v g ⟨e, hg⟩ => by subst e; exact ⟨_, _, freezeH (l := [(a1, b1)]) rfl hg, rfl⟩)
  | [(a1, b1), (a2, b2)], _ => FnOK.weak1 ((FnOK.ftree SN_ok mixed Tryz.func63 clh_some (clh2 a1 b1 a2 b2 (fun v o => v = .slice (some ⟨1, 0, none⟩) 2 2 ∧ o = some (.cells ⟨[.string a1, .string b1, .string a2, .string b2]⟩ 99 (0, 0)))) ⟨rfl, rfl⟩).mono fun v g ⟨e, hg⟩ => by subst e; exact ⟨_, _, freezeH (l := [(a1, b1), (a2, b2)]) rfl hg, rfl⟩)
  | [(a1, b1), (a2, b2), (a3, b3)], _ => FnOK.weak1 ((FnOK.ftree SN_ok mixed Tryz.func63 clh_some (clh3 a1 b1 a2 b2 a3 b3 (fun v o => v = .slice (some ⟨1, 0, none⟩) 3 3 ∧ o = some (.cells ⟨[.string a1, .string b1, .string a2, .string b2, .string a3, .string b3]⟩ 99 (0, 0)))) ⟨rfl, rfl⟩).mono fun v g ⟨e, hg⟩ => by subst e; exact ⟨_, _, freezeH (l := [(a1, b1), (a2, b2), (a3, b3)]) rfl hg, rfl⟩)
  | [(a1, b1), (a2, b2), (a3, b3), (a4, b4)], _ => FnOK.weak1 ((FnOK.ftree SN_ok mixed Tryz.func63 clh_some (clh4 a1 b1 a2 b2 a3 b3 a4 b4 (fun v o => v = .slice (some ⟨1, 0, none⟩) 4 4 ∧ o = some (.cells ⟨[.string a1, .string b1, .string a2, .string b2, .string a3, .string b3, .string a4, .string b4]⟩ 99 (0, 0)))) ⟨rfl, rfl⟩).mono fun v g ⟨e, hg⟩ => by subst e; exact ⟨_, _, freezeH (l := [(a1, b1), (a2, b2), (a3, b3), (a4, b4)]) rfl hg, rfl⟩)
  | _ :: _ :: _ :: _ :: _ :: _, h => absurd h (by simp)
noncomputable def spClH (f : FuncId) (args : Array Value) (h : AH) : Option (Bool × Value × AH) :=
  cond (Nat.beq f 63) (match args with
    | ⟨[y]⟩ => match asFz y with
      | some xs => some (xs.all shpH && Nat.ble xs.length 4, fz ⟨xs⟩, h)
      | none => none
    | _ => none) none
theorem spClH_ok : SpOK spClH := by
  intro f args h v h' hs
  unfold spClH at hs
  obtain ⟨hf, hs2⟩ := cond_some hs
  clear hs
  have hs := hs2
  clear hs2
  have := Nat.eq_of_beq_eq_true hf
  subst this
  split at hs
  · rename_i y
    split at hs
    · rename_i xs hy
      injection hs with hs
      injection hs with hb hs
      injection hs with hv hh
      subst hv hh
      simp only [Bool.and_eq_true, Nat.ble_eq] at hb
      have hF := clh_fn (hlist xs) (by simpa [hlist] using hb.2)
      rw [shpH_all hb.1] at hF
      exact ⟨asFz_call hy (FnOK.pure hF rfl rfl h), Nat.le_refl _⟩
    · cases hs
  · cases hs

/-! without -/
noncomputable def SDz : SC := ⟨idn, spOr spEzH spNmd, true, false⟩
theorem SDz_ok : SDz.cfg.OK Tryz.prog := (spEzH_ok.or spNmd_ok).cfg
theorem wo_nil (c : Nat) (k : ByteArray) (Q : Value → Prop) : ffn Tryz.prog SDz [] 600 [] Tryz.f66 [.slice none 0 c, .string k] h0 (fun v _ => Q v) = Q (.slice none 0 0) := by kernel_rfl
theorem wo_ez (k : ByteArray) (Q : Value → Option Obj → Prop) : ffn Tryz.prog SDz [] 600 [] Tryz.f66 [ez, .string k] h0 (fun v h => Q v (h.get 1)) = Q (.slice (some ⟨1, 0, none⟩) 0 0) (some (.cells ⟨[]⟩ 99 (0, 0))) := by kernel_rfl
theorem wo2_fn (k : ByteArray) (hk : inU asksU k = true) : ∀ l : List (ByteArray × ByteArray), l.length ≤ 4 → (∀ p ∈ l, inU namesU p.1 = true) → FnOK 0 Tryz.prog 66 ⟨[fz ⟨l.map hv⟩, .string k]⟩ h0 (fun v _ => v = fz ⟨(removeL k l).map hv⟩)
  | [], _, _ => FnOK.empty (fun c => nil_fn (FnOK.ftree SDz_ok mixed Tryz.func66 some66 (wo_nil c k (fun v => v = .slice none 0 0)) rfl)) (FnOK.weak1 ((FnOK.ftree SDz_ok mixed Tryz.func66 some66 (wo_ez k (fun v o => v = .slice (some ⟨1, 0, none⟩) 0 0 ∧ o = some (.cells ⟨[]⟩ 99 (0, 0)))) ⟨rfl, rfl⟩).mono fun v g ⟨e, hg⟩ => by subst e; exact ⟨_, _, freezeH (l := []) rfl hg, rfl⟩))
  | p :: l, h, hok => wo_fn (p :: l) k (by simp) h hk hok
noncomputable def spWo2 (f : FuncId) (args : Array Value) (h : AH) : Option (Bool × Value × AH) :=
  cond (Nat.beq f 66) (match args with
    | ⟨[y, .string k]⟩ => match asFz y with
      | some xs => some (xs.all shpH && (hlist xs).all okN && Nat.ble xs.length 4 && inU asksU k, fz ⟨(removeL k (hlist xs)).map hv⟩, h)
      | none => none
    | _ => none) none
theorem spWo2_ok : SpOK spWo2 := by
  intro f args h v h' hs
  unfold spWo2 at hs
  obtain ⟨hf, hs2⟩ := cond_some hs
  clear hs
  have hs := hs2
  clear hs2
  have := Nat.eq_of_beq_eq_true hf
  subst this
  split at hs
  · rename_i y k
    split at hs
    · rename_i xs hy
      injection hs with hs
      injection hs with hb hs
      injection hs with hv hh
      subst hv hh
      simp only [Bool.and_eq_true, Nat.ble_eq] at hb
      have hF := wo2_fn k hb.2 (hlist xs) (by simpa [hlist] using hb.1.2) (fun p hp => by simpa [okN] using List.all_eq_true.1 hb.1.1.2 p hp)
      rw [shpH_all hb.1.1.1] at hF
      exact ⟨asFz_call hy (FnOK.pure hF rfl rfl h), Nat.le_refl _⟩
    · cases hs
  · cases hs

/-! joined -/
noncomputable def SJd : SC := ⟨idn, spOr spEzS spJn, true, false⟩
theorem SJd_ok : SJd.cfg.OK Tryz.prog := (spEzS_ok.or spJn_ok).cfg
noncomputable def jdE (acc : List ByteArray) (Q : Value → Prop) : Prop :=
  bif okJ (acc.map Value.string) ⟨#[44, 32]⟩ then Q (.string (bl (Lib.join ((strsOf (acc.map Value.string)).map (·.data.toList)) (ByteArray.mk #[44, 32]).data.toList))) else False
noncomputable def jdU (Q : Value → Prop) : List ByteArray → List ByteArray → Prop
  | [], acc => jdE acc Q
  | a :: r, acc => bif !(a.toList == (ByteArray.mk #[]).toList) then jdU Q r (acc ++ [a]) else jdU Q r acc
noncomputable def jdT (Q : Value → Prop) : List ByteArray → List ByteArray → Prop
  | [], acc => jdE acc Q
  | a :: r, acc => bif a.toList == (ByteArray.mk #[]).toList then jdU Q r acc else jdT Q r (acc ++ [a])
theorem jd_nil (c : Nat) (s : ByteArray) (Q : Value → Prop) : tfn Tryz.prog SJd [] (ghost1 1 (freezeG 13 false 1 [0])) 3000 [] Tryz.f67 [.slice none 0 c, .string s] h0 (fun v _ => Q v) = jdT Q [s] [] := by kernel_rfl
theorem jd_ez (s : ByteArray) (Q : Value → Prop) : tfn Tryz.prog SJd [] (ghost1 1 (freezeG 13 false 1 [0])) 3000 [] Tryz.f67 [ez, .string s] h0 (fun v _ => Q v) = jdT Q [s] [] := by kernel_rfl
theorem jd1 (a1 : ByteArray) (s : ByteArray) (Q : Value → Prop) : tfn Tryz.prog SJd [] (ghost1 1 (freezeG 13 false 1 [0])) 3000 [] Tryz.f67 [fz ⟨[.string a1]⟩, .string s] h0 (fun v _ => Q v) = jdT Q [a1, s] [] := by kernel_rfl
theorem jd2 (a1 a2 : ByteArray) (s : ByteArray) (Q : Value → Prop) : tfn Tryz.prog SJd [] (ghost1 1 (freezeG 13 false 1 [0])) 3000 [] Tryz.f67 [fz ⟨[.string a1, .string a2]⟩, .string s] h0 (fun v _ => Q v) = jdT Q [a1, a2, s] [] := by kernel_rfl
theorem jd3 (a1 a2 a3 : ByteArray) (s : ByteArray) (Q : Value → Prop) : tfn Tryz.prog SJd [] (ghost1 1 (freezeG 13 false 1 [0])) 3000 [] Tryz.f67 [fz ⟨[.string a1, .string a2, .string a3]⟩, .string s] h0 (fun v _ => Q v) = jdT Q [a1, a2, a3, s] [] := by kernel_rfl
theorem jd4 (a1 a2 a3 a4 : ByteArray) (s : ByteArray) (Q : Value → Prop) : tfn Tryz.prog SJd [] (ghost1 1 (freezeG 13 false 1 [0])) 3000 [] Tryz.f67 [fz ⟨[.string a1, .string a2, .string a3, .string a4]⟩, .string s] h0 (fun v _ => Q v) = jdT Q [a1, a2, a3, a4, s] [] := by kernel_rfl
theorem jd_some : Tryz.f67.body.isSome = true := by kernel_rfl
theorem join_le : ∀ (r : List (List UInt8)), (Lib.join r sepC).length ≤ (r.map fun p => p.length + 2).sum
  | [] => Nat.le_refl _
  | [y] => by rw [Lib.join_one]; simp
  | y :: z :: r => by
    have ih := join_le (z :: r)
    have e : Lib.join (y :: z :: r) sepC = y ++ sepC ++ Lib.join (z :: r) sepC := by
      rw [Lib.join_cons, Lib.join_cons]
      simp [Lib.joinTail, List.append_assoc]
    rw [e, List.map_cons, List.sum_cons]
    simp only [List.length_append, sepC, List.length_cons, List.length_nil] at ih ⊢
    omega
theorem jdE_ok {acc : List (List UInt8)} (h1 : acc.length ≤ 1000) (h2 : (acc.map fun p => p.length + 2).sum ≤ 90000) {Q : Value → Prop} (hQ : Q (.string (bl (Lib.join acc sepC)))) : jdE (acc.map bl) Q := by
  have e : (acc.map bl).map Value.string = acc.map strV := strV_map acc
  have e2 : (strsOf (acc.map strV)).map (·.data.toList) = acc := by
    unfold strsOf
    rw [List.map_map, List.map_map]
    have : (((fun x : ByteArray => x.data.toList) ∘ toStr) ∘ strV) = id := by funext l; exact bl_list l
    rw [this, List.map_id]
  have hl := join_le acc
  unfold jdE okJ lenJ
  rw [e, e2]
  refine need_mk ?_ hQ
  rw [Bool.and_eq_true, Bool.and_eq_true, Nat.ble_eq, Nat.ble_eq, List.length_map]
  refine ⟨⟨?_, h1⟩, by show (Lib.join acc sepC).length ≤ _; omega⟩
  rw [List.all_eq_true]
  intro v hv
  obtain ⟨l, _, rfl⟩ := List.mem_map.1 hv
  rfl
theorem full_cons (a : List UInt8) (r : List (List UInt8)) : fullB (a :: r) = (bif a.isEmpty then [] else [a]) ++ fullB r := by
  unfold fullB
  rw [List.filter_cons]
  cases a.isEmpty <;> rfl
theorem jdU_ok {Q : Value → Prop} : ∀ (r acc : List (List UInt8)), (acc ++ r).length ≤ 1000 → ((acc ++ r).map fun p => p.length + 2).sum ≤ 90000 → Q (.string (bl (Lib.join (acc ++ fullB r) sepC))) → jdU Q (r.map bl) (acc.map bl)
  | [], acc, h1, h2, hQ => by
    rw [List.append_nil] at h1 h2
    rw [show fullB [] = [] from rfl, List.append_nil] at hQ
    exact jdE_ok h1 h2 hQ
  | a :: r, acc, h1, h2, hQ => by
    rw [full_cons] at hQ
    show (bif !((bl a).toList == (ByteArray.mk #[]).toList) then jdU Q (r.map bl) (acc.map bl ++ [bl a]) else jdU Q (r.map bl) (acc.map bl))
    rw [bl_beq0]
    have e1 : acc.map bl ++ [bl a] = (acc ++ [a]).map bl := by simp
    have e2 : acc ++ a :: r = (acc ++ [a]) ++ r := by simp
    cases he : a.isEmpty with
    | true =>
      rw [he] at hQ
      refine pick_f rfl (jdU_ok r acc ?_ ?_ hQ)
      · simp at h1 ⊢; omega
      · simp at h2 ⊢; omega
    | false =>
      rw [he, cond_false, ← List.append_assoc] at hQ
      refine pick_t rfl ?_
      rw [e1]
      exact jdU_ok r (acc ++ [a]) (by rw [← e2]; exact h1) (by rw [← e2]; exact h2) hQ
theorem jdT_ok {Q : Value → Prop} : ∀ (r acc : List (List UInt8)), (acc ++ r).length ≤ 1000 → ((acc ++ r).map fun p => p.length + 2).sum ≤ 90000 → Q (.string (bl (Lib.join (acc ++ fullB r) sepC))) → jdT Q (r.map bl) (acc.map bl)
  | [], acc, h1, h2, hQ => by
    rw [List.append_nil] at h1 h2
    rw [show fullB [] = [] from rfl, List.append_nil] at hQ
    exact jdE_ok h1 h2 hQ
  | a :: r, acc, h1, h2, hQ => by
    rw [full_cons] at hQ
    show (bif (bl a).toList == (ByteArray.mk #[]).toList then jdU Q (r.map bl) (acc.map bl) else jdT Q (r.map bl) (acc.map bl ++ [bl a]))
    rw [bl_beq0]
    have e1 : acc.map bl ++ [bl a] = (acc ++ [a]).map bl := by simp
    have e2 : acc ++ a :: r = (acc ++ [a]) ++ r := by simp
    cases he : a.isEmpty with
    | true =>
      rw [he] at hQ
      refine pick_t rfl (jdU_ok r acc ?_ ?_ hQ)
      · simp at h1 ⊢; omega
      · simp at h2 ⊢; omega
    | false =>
      rw [he, cond_false, ← List.append_assoc] at hQ
      refine pick_f rfl ?_
      rw [e1]
      exact jdT_ok r (acc ++ [a]) (by rw [← e2]; exact h1) (by rw [← e2]; exact h2) hQ
theorem jd_fn (s : List UInt8) (hs : s.length ≤ 5000) : ∀ (L : List (List UInt8)), L.length ≤ 4 → (∀ v ∈ L, v.length ≤ 5000) → FnOK 0 Tryz.prog 67 ⟨[fz ⟨L.map strV⟩, .string (bl s)]⟩ h0 (fun v _ => v = .string (bl (joinB (L ++ [s]))))
  | [], _, h => by
    have T := jdT_ok (Q := fun v => v = .string (bl (joinB ([] ++ [s])))) ([] ++ [s]) [] (by simp) (by
      have h := fun v hv => h v hv
      simp at h ⊢
      omega) rfl
    exact FnOK.empty (fun c => FnOK.ttree SJd_ok mixed Tryz.func67 jd_some (ghosts_one (by kernel_rfl) (freezeG_ok _ _ _ _ _ _)) (jd_nil c (bl s) _) T) (FnOK.ttree SJd_ok mixed Tryz.func67 jd_some (ghosts_one (by kernel_rfl) (freezeG_ok _ _ _ _ _ _)) (jd_ez (bl s) _) T)
  | [a1], _, h => by
    have T := jdT_ok (Q := fun v => v = .string (bl (joinB ([a1] ++ [s])))) ([a1] ++ [s]) [] (by simp) (by
      have h := fun v hv => h v hv
      simp at h ⊢
      omega) rfl
    exact FnOK.ttree SJd_ok mixed Tryz.func67 jd_some (ghosts_one (by kernel_rfl) (freezeG_ok _ _ _ _ _ _)) (jd1 (bl a1) (bl s) _) T
  | [a1, a2], _, h => by
    have T := jdT_ok (Q := fun v => v = .string (bl (joinB ([a1, a2] ++ [s])))) ([a1, a2] ++ [s]) [] (by simp) (by
      have h := fun v hv => h v hv
      simp at h ⊢
      omega) rfl
    exact FnOK.ttree SJd_ok mixed Tryz.func67 jd_some (ghosts_one (by kernel_rfl) (freezeG_ok _ _ _ _ _ _)) (jd2 (bl a1) (bl a2) (bl s) _) T
  | [a1, a2, a3], _, h => by
    have T := jdT_ok (Q := fun v => v = .string (bl (joinB ([a1, a2, a3] ++ [s])))) ([a1, a2, a3] ++ [s]) [] (by simp) (by
      have h := fun v hv => h v hv
      simp at h ⊢
      omega) rfl
    exact FnOK.ttree SJd_ok mixed Tryz.func67 jd_some (ghosts_one (by kernel_rfl) (freezeG_ok _ _ _ _ _ _)) (jd3 (bl a1) (bl a2) (bl a3) (bl s) _) T
  | [a1, a2, a3, a4], _, h => by
    have T := jdT_ok (Q := fun v => v = .string (bl (joinB ([a1, a2, a3, a4] ++ [s])))) ([a1, a2, a3, a4] ++ [s]) [] (by simp) (by
      have h := fun v hv => h v hv
      simp at h ⊢
      omega) rfl
    exact FnOK.ttree SJd_ok mixed Tryz.func67 jd_some (ghosts_one (by kernel_rfl) (freezeG_ok _ _ _ _ _ _)) (jd4 (bl a1) (bl a2) (bl a3) (bl a4) (bl s) _) T
  | _ :: _ :: _ :: _ :: _ :: _, h, _ => absurd h (by simp)
def okJd (vs : List Value) (s : ByteArray) : Bool := vs.all isStr && Nat.ble vs.length 4 && ((blS vs).all fun v => Nat.ble v.length 5000) && Nat.ble s.data.toList.length 5000
noncomputable def spJd (f : FuncId) (args : Array Value) (h : AH) : Option (Bool × Value × AH) :=
  cond (Nat.beq f 67) (match args with
    | ⟨[.func (.yield 0) ⟨vs⟩ ⟨[]⟩, .string s]⟩ => some (okJd vs s, .string (bl (joinB (blS vs ++ [s.data.toList]))), h)
    | _ => none) none
theorem spJd_ok : SpOK spJd := by
  intro f args h v h' hs
  unfold spJd at hs
  obtain ⟨hf, hs2⟩ := cond_some hs
  clear hs
  have := Nat.eq_of_beq_eq_true hf
  subst this
  split at hs2
  · injection hs2 with hs
    injection hs with hb hs
    injection hs with hv hh
    subst hv hh
    rename_i vs s
    unfold okJd at hb
    simp only [Bool.and_eq_true, Nat.ble_eq] at hb
    obtain ⟨⟨⟨b1, b2⟩, b3⟩, b4⟩ := hb
    have e := blS_eq b1
    have := jd_fn s.data.toList b4 (blS vs) (by unfold blS; rw [List.length_map]; exact b2) (fun v hv => by have := List.all_eq_true.1 b3 v hv; exact Nat.le_of_ble_eq_true this)
    rw [← e, bl_self] at this
    exact ⟨FnOK.pure this rfl rfl h, Nat.le_refl _⟩
  · cases hs2
end Go.Proofs.YtfjfdemnnhfmoaaGreatDoor
