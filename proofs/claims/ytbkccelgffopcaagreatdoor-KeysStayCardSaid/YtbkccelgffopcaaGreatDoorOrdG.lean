/-
  Instances with one more: their check and their order.
-/
import Derived.Test.YtbkccelgffopcaaGreatDoorOrdC
import Derived.Test.YtbkccelgffopcaaGreatDoorInst
namespace Go.Proofs.YtbkccelgffopcaaGreatDoor
open Go.Ev Go.RowKit

theorem ci_az (w1 w2 : Int) (Q : Value → Prop) : ffn Tryz.prog SN [] 3000 [] Tryz.f23 [fz ⟨[.agg ⟨[.string ⟨#[105, 97]⟩, .int .i64 w1]⟩, .agg ⟨[.string ⟨#[105, 122]⟩, .int .i64 w2]⟩]⟩] h0 (fun v _ => Q v) = wtK [w1, w2] (Q (.int .i64 1)) (Q (.int .i64 0)) := by kernel_rfl
theorem ci_bz (w1 w2 : Int) (Q : Value → Prop) : ffn Tryz.prog SN [] 3000 [] Tryz.f23 [fz ⟨[.agg ⟨[.string ⟨#[105, 98]⟩, .int .i64 w1]⟩, .agg ⟨[.string ⟨#[105, 122]⟩, .int .i64 w2]⟩]⟩] h0 (fun v _ => Q v) = wtK [w1, w2] (Q (.int .i64 1)) (Q (.int .i64 0)) := by kernel_rfl
theorem ci_cz (w1 w2 : Int) (Q : Value → Prop) : ffn Tryz.prog SN [] 3000 [] Tryz.f23 [fz ⟨[.agg ⟨[.string ⟨#[105, 99]⟩, .int .i64 w1]⟩, .agg ⟨[.string ⟨#[105, 122]⟩, .int .i64 w2]⟩]⟩] h0 (fun v _ => Q v) = wtK [w1, w2] (Q (.int .i64 1)) (Q (.int .i64 0)) := by kernel_rfl
theorem ci_dz (w1 w2 : Int) (Q : Value → Prop) : ffn Tryz.prog SN [] 3000 [] Tryz.f23 [fz ⟨[.agg ⟨[.string ⟨#[105, 100]⟩, .int .i64 w1]⟩, .agg ⟨[.string ⟨#[105, 122]⟩, .int .i64 w2]⟩]⟩] h0 (fun v _ => Q v) = wtK [w1, w2] (Q (.int .i64 1)) (Q (.int .i64 0)) := by kernel_rfl
theorem ci_abz (w1 w2 w3 : Int) (Q : Value → Prop) : ffn Tryz.prog SN [] 3000 [] Tryz.f23 [fz ⟨[.agg ⟨[.string ⟨#[105, 97]⟩, .int .i64 w1]⟩, .agg ⟨[.string ⟨#[105, 98]⟩, .int .i64 w2]⟩, .agg ⟨[.string ⟨#[105, 122]⟩, .int .i64 w3]⟩]⟩] h0 (fun v _ => Q v) = wtK [w1, w2, w3] (Q (.int .i64 1)) (Q (.int .i64 0)) := by kernel_rfl
theorem ci_acz (w1 w2 w3 : Int) (Q : Value → Prop) : ffn Tryz.prog SN [] 3000 [] Tryz.f23 [fz ⟨[.agg ⟨[.string ⟨#[105, 97]⟩, .int .i64 w1]⟩, .agg ⟨[.string ⟨#[105, 99]⟩, .int .i64 w2]⟩, .agg ⟨[.string ⟨#[105, 122]⟩, .int .i64 w3]⟩]⟩] h0 (fun v _ => Q v) = wtK [w1, w2, w3] (Q (.int .i64 1)) (Q (.int .i64 0)) := by kernel_rfl
theorem ci_adz (w1 w2 w3 : Int) (Q : Value → Prop) : ffn Tryz.prog SN [] 3000 [] Tryz.f23 [fz ⟨[.agg ⟨[.string ⟨#[105, 97]⟩, .int .i64 w1]⟩, .agg ⟨[.string ⟨#[105, 100]⟩, .int .i64 w2]⟩, .agg ⟨[.string ⟨#[105, 122]⟩, .int .i64 w3]⟩]⟩] h0 (fun v _ => Q v) = wtK [w1, w2, w3] (Q (.int .i64 1)) (Q (.int .i64 0)) := by kernel_rfl
theorem ci_bcz (w1 w2 w3 : Int) (Q : Value → Prop) : ffn Tryz.prog SN [] 3000 [] Tryz.f23 [fz ⟨[.agg ⟨[.string ⟨#[105, 98]⟩, .int .i64 w1]⟩, .agg ⟨[.string ⟨#[105, 99]⟩, .int .i64 w2]⟩, .agg ⟨[.string ⟨#[105, 122]⟩, .int .i64 w3]⟩]⟩] h0 (fun v _ => Q v) = wtK [w1, w2, w3] (Q (.int .i64 1)) (Q (.int .i64 0)) := by kernel_rfl
theorem ci_bdz (w1 w2 w3 : Int) (Q : Value → Prop) : ffn Tryz.prog SN [] 3000 [] Tryz.f23 [fz ⟨[.agg ⟨[.string ⟨#[105, 98]⟩, .int .i64 w1]⟩, .agg ⟨[.string ⟨#[105, 100]⟩, .int .i64 w2]⟩, .agg ⟨[.string ⟨#[105, 122]⟩, .int .i64 w3]⟩]⟩] h0 (fun v _ => Q v) = wtK [w1, w2, w3] (Q (.int .i64 1)) (Q (.int .i64 0)) := by kernel_rfl
theorem ci_cdz (w1 w2 w3 : Int) (Q : Value → Prop) : ffn Tryz.prog SN [] 3000 [] Tryz.f23 [fz ⟨[.agg ⟨[.string ⟨#[105, 99]⟩, .int .i64 w1]⟩, .agg ⟨[.string ⟨#[105, 100]⟩, .int .i64 w2]⟩, .agg ⟨[.string ⟨#[105, 122]⟩, .int .i64 w3]⟩]⟩] h0 (fun v _ => Q v) = wtK [w1, w2, w3] (Q (.int .i64 1)) (Q (.int .i64 0)) := by kernel_rfl
theorem ci_abcz (w1 w2 w3 w4 : Int) (Q : Value → Prop) : ffn Tryz.prog SN [] 3000 [] Tryz.f23 [fz ⟨[.agg ⟨[.string ⟨#[105, 97]⟩, .int .i64 w1]⟩, .agg ⟨[.string ⟨#[105, 98]⟩, .int .i64 w2]⟩, .agg ⟨[.string ⟨#[105, 99]⟩, .int .i64 w3]⟩, .agg ⟨[.string ⟨#[105, 122]⟩, .int .i64 w4]⟩]⟩] h0 (fun v _ => Q v) = wtK [w1, w2, w3, w4] (Q (.int .i64 1)) (Q (.int .i64 0)) := by kernel_rfl
theorem ci_abdz (w1 w2 w3 w4 : Int) (Q : Value → Prop) : ffn Tryz.prog SN [] 3000 [] Tryz.f23 [fz ⟨[.agg ⟨[.string ⟨#[105, 97]⟩, .int .i64 w1]⟩, .agg ⟨[.string ⟨#[105, 98]⟩, .int .i64 w2]⟩, .agg ⟨[.string ⟨#[105, 100]⟩, .int .i64 w3]⟩, .agg ⟨[.string ⟨#[105, 122]⟩, .int .i64 w4]⟩]⟩] h0 (fun v _ => Q v) = wtK [w1, w2, w3, w4] (Q (.int .i64 1)) (Q (.int .i64 0)) := by kernel_rfl
theorem ci_acdz (w1 w2 w3 w4 : Int) (Q : Value → Prop) : ffn Tryz.prog SN [] 3000 [] Tryz.f23 [fz ⟨[.agg ⟨[.string ⟨#[105, 97]⟩, .int .i64 w1]⟩, .agg ⟨[.string ⟨#[105, 99]⟩, .int .i64 w2]⟩, .agg ⟨[.string ⟨#[105, 100]⟩, .int .i64 w3]⟩, .agg ⟨[.string ⟨#[105, 122]⟩, .int .i64 w4]⟩]⟩] h0 (fun v _ => Q v) = wtK [w1, w2, w3, w4] (Q (.int .i64 1)) (Q (.int .i64 0)) := by kernel_rfl
theorem ci_bcdz (w1 w2 w3 w4 : Int) (Q : Value → Prop) : ffn Tryz.prog SN [] 3000 [] Tryz.f23 [fz ⟨[.agg ⟨[.string ⟨#[105, 98]⟩, .int .i64 w1]⟩, .agg ⟨[.string ⟨#[105, 99]⟩, .int .i64 w2]⟩, .agg ⟨[.string ⟨#[105, 100]⟩, .int .i64 w3]⟩, .agg ⟨[.string ⟨#[105, 122]⟩, .int .i64 w4]⟩]⟩] h0 (fun v _ => Q v) = wtK [w1, w2, w3, w4] (Q (.int .i64 1)) (Q (.int .i64 0)) := by kernel_rfl
theorem ci_abcdz (w1 w2 w3 w4 w5 : Int) (Q : Value → Prop) : ffn Tryz.prog SN [] 3000 [] Tryz.f23 [fz ⟨[.agg ⟨[.string ⟨#[105, 97]⟩, .int .i64 w1]⟩, .agg ⟨[.string ⟨#[105, 98]⟩, .int .i64 w2]⟩, .agg ⟨[.string ⟨#[105, 99]⟩, .int .i64 w3]⟩, .agg ⟨[.string ⟨#[105, 100]⟩, .int .i64 w4]⟩, .agg ⟨[.string ⟨#[105, 122]⟩, .int .i64 w5]⟩]⟩] h0 (fun v _ => Q v) = wtK [w1, w2, w3, w4, w5] (Q (.int .i64 1)) (Q (.int .i64 0)) := by kernel_rfl
theorem ci5_fn (l : List (ByteArray × Int)) (h : l.map Prod.fst ∈ keys5) (hw : ∀ p ∈ l, 1 ≤ p.2 ∧ p.2 ≤ 100) : FnOK 0 Tryz.prog 23 ⟨[fz ⟨l.map instV⟩]⟩ h0 (fun v _ => v = .int .i64 0) := by
  have hws : ∀ w ∈ l.map Prod.snd, 1 ≤ w ∧ w ≤ 100 := by
    intro w hw2
    obtain ⟨p, hp, rfl⟩ := List.mem_map.1 hw2
    exact hw p hp
  clear hw
  simp only [keys5, List.mem_cons, List.not_mem_nil, or_false] at h
  rcases h with h | h | h | h | h | h | h | h | h | h | h | h | h | h | h
  · match l, h, hws with
    | [(a0, w0), (a1, w1)], h, hws =>
      simp only [List.map_cons, List.map_nil, List.cons.injEq, and_true] at h
      obtain ⟨rfl, rfl⟩ := h
      exact FnOK.ftree SN_ok mixed Tryz.func23 some23 (ci_az w0 w1 fun v => v = .int .i64 0) (wtK_mk rfl _ hws)
  · match l, h, hws with
    | [(a0, w0), (a1, w1)], h, hws =>
      simp only [List.map_cons, List.map_nil, List.cons.injEq, and_true] at h
      obtain ⟨rfl, rfl⟩ := h
      exact FnOK.ftree SN_ok mixed Tryz.func23 some23 (ci_bz w0 w1 fun v => v = .int .i64 0) (wtK_mk rfl _ hws)
  · match l, h, hws with
    | [(a0, w0), (a1, w1)], h, hws =>
      simp only [List.map_cons, List.map_nil, List.cons.injEq, and_true] at h
      obtain ⟨rfl, rfl⟩ := h
      exact FnOK.ftree SN_ok mixed Tryz.func23 some23 (ci_cz w0 w1 fun v => v = .int .i64 0) (wtK_mk rfl _ hws)
  · match l, h, hws with
    | [(a0, w0), (a1, w1)], h, hws =>
      simp only [List.map_cons, List.map_nil, List.cons.injEq, and_true] at h
      obtain ⟨rfl, rfl⟩ := h
      exact FnOK.ftree SN_ok mixed Tryz.func23 some23 (ci_dz w0 w1 fun v => v = .int .i64 0) (wtK_mk rfl _ hws)
  · match l, h, hws with
    | [(a0, w0), (a1, w1), (a2, w2)], h, hws =>
      simp only [List.map_cons, List.map_nil, List.cons.injEq, and_true] at h
      obtain ⟨rfl, rfl, rfl⟩ := h
      exact FnOK.ftree SN_ok mixed Tryz.func23 some23 (ci_abz w0 w1 w2 fun v => v = .int .i64 0) (wtK_mk rfl _ hws)
  · match l, h, hws with
    | [(a0, w0), (a1, w1), (a2, w2)], h, hws =>
      simp only [List.map_cons, List.map_nil, List.cons.injEq, and_true] at h
      obtain ⟨rfl, rfl, rfl⟩ := h
      exact FnOK.ftree SN_ok mixed Tryz.func23 some23 (ci_acz w0 w1 w2 fun v => v = .int .i64 0) (wtK_mk rfl _ hws)
  · match l, h, hws with
    | [(a0, w0), (a1, w1), (a2, w2)], h, hws =>
      simp only [List.map_cons, List.map_nil, List.cons.injEq, and_true] at h
      obtain ⟨rfl, rfl, rfl⟩ := h
      exact FnOK.ftree SN_ok mixed Tryz.func23 some23 (ci_adz w0 w1 w2 fun v => v = .int .i64 0) (wtK_mk rfl _ hws)
  · match l, h, hws with
    | [(a0, w0), (a1, w1), (a2, w2)], h, hws =>
      simp only [List.map_cons, List.map_nil, List.cons.injEq, and_true] at h
      obtain ⟨rfl, rfl, rfl⟩ := h
      exact FnOK.ftree SN_ok mixed Tryz.func23 some23 (ci_bcz w0 w1 w2 fun v => v = .int .i64 0) (wtK_mk rfl _ hws)
  · match l, h, hws with
    | [(a0, w0), (a1, w1), (a2, w2)], h, hws =>
      simp only [List.map_cons, List.map_nil, List.cons.injEq, and_true] at h
      obtain ⟨rfl, rfl, rfl⟩ := h
      exact FnOK.ftree SN_ok mixed Tryz.func23 some23 (ci_bdz w0 w1 w2 fun v => v = .int .i64 0) (wtK_mk rfl _ hws)
  · match l, h, hws with
    | [(a0, w0), (a1, w1), (a2, w2)], h, hws =>
      simp only [List.map_cons, List.map_nil, List.cons.injEq, and_true] at h
      obtain ⟨rfl, rfl, rfl⟩ := h
      exact FnOK.ftree SN_ok mixed Tryz.func23 some23 (ci_cdz w0 w1 w2 fun v => v = .int .i64 0) (wtK_mk rfl _ hws)
  · match l, h, hws with
    | [(a0, w0), (a1, w1), (a2, w2), (a3, w3)], h, hws =>
      simp only [List.map_cons, List.map_nil, List.cons.injEq, and_true] at h
      obtain ⟨rfl, rfl, rfl, rfl⟩ := h
      exact FnOK.ftree SN_ok mixed Tryz.func23 some23 (ci_abcz w0 w1 w2 w3 fun v => v = .int .i64 0) (wtK_mk rfl _ hws)
  · match l, h, hws with
    | [(a0, w0), (a1, w1), (a2, w2), (a3, w3)], h, hws =>
      simp only [List.map_cons, List.map_nil, List.cons.injEq, and_true] at h
      obtain ⟨rfl, rfl, rfl, rfl⟩ := h
      exact FnOK.ftree SN_ok mixed Tryz.func23 some23 (ci_abdz w0 w1 w2 w3 fun v => v = .int .i64 0) (wtK_mk rfl _ hws)
  · match l, h, hws with
    | [(a0, w0), (a1, w1), (a2, w2), (a3, w3)], h, hws =>
      simp only [List.map_cons, List.map_nil, List.cons.injEq, and_true] at h
      obtain ⟨rfl, rfl, rfl, rfl⟩ := h
      exact FnOK.ftree SN_ok mixed Tryz.func23 some23 (ci_acdz w0 w1 w2 w3 fun v => v = .int .i64 0) (wtK_mk rfl _ hws)
  · match l, h, hws with
    | [(a0, w0), (a1, w1), (a2, w2), (a3, w3)], h, hws =>
      simp only [List.map_cons, List.map_nil, List.cons.injEq, and_true] at h
      obtain ⟨rfl, rfl, rfl, rfl⟩ := h
      exact FnOK.ftree SN_ok mixed Tryz.func23 some23 (ci_bcdz w0 w1 w2 w3 fun v => v = .int .i64 0) (wtK_mk rfl _ hws)
  · match l, h, hws with
    | [(a0, w0), (a1, w1), (a2, w2), (a3, w3), (a4, w4)], h, hws =>
      simp only [List.map_cons, List.map_nil, List.cons.injEq, and_true] at h
      obtain ⟨rfl, rfl, rfl, rfl, rfl⟩ := h
      exact FnOK.ftree SN_ok mixed Tryz.func23 some23 (ci_abcdz w0 w1 w2 w3 w4 fun v => v = .int .i64 0) (wtK_mk rfl _ hws)
def isKeys5 (ks : List ByteArray) : Bool := keys5.any fun s => eqKeys s ks
theorem isKeys5_mem {ks : List ByteArray} (h : isKeys5 ks = true) : ks ∈ keys5 := by
  obtain ⟨t, h1, h2⟩ := List.any_eq_true.1 h
  rw [← eqKeys_eq h2]
  exact h1
/-- Instances as they are drawn, or with one more. -/
def rightI (xs : List Value) : Bool := xs.all isInst && (isKeys ((plist xs).map Prod.fst) || isKeys5 ((plist xs).map Prod.fst))
theorem chk_fn (xs : List Value) (h : rightI xs = true) (hw : (plist xs).all wtOk = true) : FnOK 0 Tryz.prog 23 ⟨[fz ⟨xs⟩]⟩ h0 (fun v _ => v = .int .i64 0) := by
  unfold rightI at h
  rw [Bool.and_eq_true, Bool.or_eq_true] at h
  have hw2 : ∀ p ∈ plist xs, 1 ≤ p.2 ∧ p.2 ≤ 100 := fun p hp => by simpa [wtOk] using List.all_eq_true.1 hw p hp
  rw [← isInst_all h.1]
  rcases h.2 with h2 | h2
  · exact ci_fn _ (isKeys_mem h2) hw2
  · exact ci5_fn _ (isKeys5_mem h2) hw2
theorem ordr_fn (k : ByteArray) (xs : List Value) (h : rightI xs = true) (hk : k.size ≤ 1000) : FnOK 0 Tryz.prog 25 ⟨[fz ⟨xs⟩, .string k]⟩ h0 (fun v _ => v = fz ⟨(sortO k (plist xs)).map instV⟩) := by
  unfold rightI at h
  rw [Bool.and_eq_true, Bool.or_eq_true] at h
  have e := isInst_all h.1
  rcases h.2 with h2 | h2
  · have := ord4_fn k hk _ (isKeys_mem h2)
    rw [e] at this
    exact this
  · have := ord5_fn k hk _ (isKeys5_mem h2)
    rw [e] at this
    exact this
theorem rightI_ne {xs : List Value} (h : rightI xs = true) : xs ≠ [] := by
  rintro rfl
  exact absurd h (by decide)
/-- Who is first, and the others. -/
noncomputable def hdP (k : ByteArray) (xs : List Value) : ByteArray × Int := (sortO k (plist xs)).headD (⟨#[]⟩, 0)
noncomputable def tlP (k : ByteArray) (xs : List Value) : List (ByteArray × Int) := (sortO k (plist xs)).tail
theorem hd_tl (k : ByteArray) {xs : List Value} (h : xs ≠ []) : sortO k (plist xs) = hdP k xs :: tlP k xs := by
  have hl := sortO_len k (plist xs)
  unfold hdP tlP
  cases hs : sortO k (plist xs) with
  | nil =>
    rw [hs] at hl
    have : xs.length = 0 := by simpa [plist] using hl.symm
    exact (h (List.length_eq_zero_iff.1 this)).elim
  | cons a l => rfl
def spChk5 (f : FuncId) (args : Array Value) (h : AH) : Option (Bool × Value × AH) :=
  cond (Nat.beq f 23) (match args with
    | ⟨[.func (.yield 0) ⟨xs⟩ ⟨[]⟩]⟩ => some (rightI xs && (plist xs).all wtOk, .int .i64 0, h)
    | _ => none) none
theorem spChk5_ok : SpOK spChk5 := by
  intro f args h v h' hs
  unfold spChk5 at hs
  obtain ⟨hf, hs2⟩ := cond_some hs
  clear hs
  have := Nat.eq_of_beq_eq_true hf
  subst this
  split at hs2
  · injection hs2 with hs
    injection hs with hb hs
    injection hs with hv hh
    subst hv hh
    rw [Bool.and_eq_true] at hb
    exact ⟨FnOK.pure (chk_fn _ hb.1 hb.2) rfl rfl h, Nat.le_refl _⟩
  · cases hs2
noncomputable def spHd (f : FuncId) (args : Array Value) (h : AH) : Option (Bool × Value × AH) :=
  cond (Nat.beq f 25) (match args with
    | ⟨[.func (.yield 0) ⟨xs⟩ ⟨[]⟩, .string k]⟩ => some (rightI xs && Nat.ble k.size 1000, fz ⟨instV (hdP k xs) :: (tlP k xs).map instV⟩, h)
    | _ => none) none
theorem spHd_ok : SpOK spHd := by
  intro f args h v h' hs
  unfold spHd at hs
  obtain ⟨hf, hs2⟩ := cond_some hs
  clear hs
  have := Nat.eq_of_beq_eq_true hf
  subst this
  split at hs2
  · rename_i xs k
    injection hs2 with hs
    injection hs with hb hs
    injection hs with hv hh
    subst hv hh
    rw [Bool.and_eq_true, Nat.ble_eq] at hb
    have := ordr_fn k xs hb.1 hb.2
    rw [hd_tl k (rightI_ne hb.1)] at this
    exact ⟨FnOK.pure this rfl rfl h, Nat.le_refl _⟩
  · cases hs2
open Classical in
noncomputable def toldL (ys : List (ByteArray × Int)) (k : ByteArray) (xs : List Value) : Bool := decide (sortO k (plist xs) = ys)
theorem toldL_eq {ys : List (ByteArray × Int)} {k : ByteArray} {xs : List Value} : toldL ys k xs = true ↔ sortO k (plist xs) = ys := by simp [toldL]
/-- The order of some instances, told. -/
noncomputable def spTold (zs : List Value) (ys : List (ByteArray × Int)) (f : FuncId) (args : Array Value) (h : AH) : Option (Bool × Value × AH) :=
  cond (Nat.beq f 25) (match args with
    | ⟨[.func (.yield 0) ⟨xs⟩ ⟨[]⟩, .string k]⟩ => cond (Nat.beq xs.length zs.length) (some (rightI xs && Nat.ble k.size 1000 && toldL ys k xs, fz ⟨ys.map instV⟩, h)) none
    | _ => none) none
theorem spTold_ok (zs : List Value) (ys : List (ByteArray × Int)) : SpOK (spTold zs ys) := by
  intro f args h v h' hs
  unfold spTold at hs
  obtain ⟨hf, hs2⟩ := cond_some hs
  clear hs
  have := Nat.eq_of_beq_eq_true hf
  subst this
  split at hs2
  · rename_i xs k
    obtain ⟨_, hs2⟩ := cond_some hs2
    injection hs2 with hs
    injection hs with hb hs
    injection hs with hv hh
    subst hv hh
    rw [Bool.and_eq_true, Bool.and_eq_true, Nat.ble_eq] at hb
    have := ordr_fn k xs hb.1.1 hb.1.2
    rw [toldL_eq.1 hb.2] at this
    exact ⟨FnOK.pure this rfl rfl h, Nat.le_refl _⟩
  · cases hs2
end Go.Proofs.YtbkccelgffopcaaGreatDoor
