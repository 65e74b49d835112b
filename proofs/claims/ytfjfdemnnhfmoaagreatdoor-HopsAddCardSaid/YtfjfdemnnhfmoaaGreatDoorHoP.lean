/-
  Headers: facts on drawn headers, and on those that are sent on.
-/
import Derived.Test.YtfjfdemnnhfmoaaGreatDoorHoO
namespace Go.Proofs.YtfjfdemnnhfmoaaGreatDoor
open Go.Ev Go.RowKit RecLaw PathLaw HopLaw

def tabV : List ByteArray := [⟨#[49]⟩, ⟨#[120]⟩, ⟨#[97, 44, 32, 98]⟩, ⟨#[]⟩, ⟨#[120, 45, 111, 110, 101, 44, 32, 99, 108, 111, 115, 101]⟩, ⟨#[103, 119]⟩, ⟨#[49, 46, 50, 46, 51, 46, 52]⟩, ⟨#[53, 46, 54, 46, 55, 46, 56, 44, 32, 57, 46, 57, 46, 57, 46, 57]⟩]
theorem vlV_tab {r : Int} (h0 : 0 ≤ r) (h1 : r < 8) : vlV r ∈ tabV := by
  have : r = 0 ∨ r = 1 ∨ r = 2 ∨ r = 3 ∨ r = 4 ∨ r = 5 ∨ r = 6 ∨ r = 7 := by omega
  rcases this with rfl | rfl | rfl | rfl | rfl | rfl | rfl | rfl <;> simp [tabV, vlV, toStr]
def okTab (v : ByteArray) : Bool := Nat.ble v.size 30 && okVal v && Nat.ble (keptB (spl 44 v.data.toList)).length 2 && (keptB (spl 44 v.data.toList)).all fun k => inU asksU (bl k)
theorem tab_all : tabV.all okTab = true := by kernel_rfl
theorem tab_ok {v : ByteArray} (h : v ∈ tabV) : v.size ≤ 30 ∧ okVal v = true ∧ (keptB (spl 44 v.data.toList)).length ≤ 2 ∧ ∀ k ∈ keptB (spl 44 v.data.toList), inU asksU (bl k) = true := by
  have := List.all_eq_true.1 tab_all v h
  unfold okTab at this
  simp only [Bool.and_eq_true, Nat.ble_eq, List.all_eq_true] at this
  exact ⟨this.1.1.1, this.1.1.2, this.1.2, this.2⟩
theorem drawn_tab (zs : List Int) : ∀ (n : Nat) (e : Int), 0 ≤ e → e + 2 * n ≤ 100000 → ∀ p ∈ drawnH (intsV zs) e n, inU namesU p.1 = true ∧ p.2 ∈ tabV
  | 0, e, _, _, p, hp => by cases hp
  | n + 1, e, h0, h1, p, hp => by
    have b := (nextR_spec zs 11 e h0 (by omega) (by omega) (by omega)).1
    have c := (nextR_spec zs 8 (e + 1) (by omega) (by omega) (by omega) (by omega)).1
    rcases List.mem_cons.1 hp with rfl | hp
    · exact ⟨nmV_in _ b.1 b.2, vlV_tab c.1 c.2⟩
    · exact drawn_tab zs n (e + 1 + 1) (by omega) (by omega) p hp
/-- Headers as they are drawn. -/
def DrH (l : List (ByteArray × ByteArray)) : Prop := l.length ≤ 4 ∧ ∀ p ∈ l, inU namesU p.1 = true ∧ p.2 ∈ tabV
theorem rhL_dr (zs : List Int) {d : Int} (h0 : 0 ≤ d) (h1 : d ≤ 90000) : DrH (rhL (intsV zs) d) := by
  have hb := (nextR_spec zs 5 d h0 (by omega) (by omega) (by omega)).1
  exact ⟨(rh_in zs h0 (by omega)).1, drawn_tab zs _ _ (by omega) (by omega)⟩
theorem DrH.okH {l : List (ByteArray × ByteArray)} (h : DrH l) : l.all okH = true := by
  rw [List.all_eq_true]
  intro p hp
  unfold Go.Proofs.YtfjfdemnnhfmoaaGreatDoor.okH
  rw [(h.2 p hp).1, (tab_ok (h.2 p hp).2).2.1]; rfl
theorem DrH.size {l : List (ByteArray × ByteArray)} (h : DrH l) : ∀ p ∈ l, p.2.size ≤ 100 := fun p hp => Nat.le_trans (tab_ok (h.2 p hp).2).1 (by omega)
theorem DrH.parts {k : ByteArray} {l : List (ByteArray × ByteArray)} (h : DrH l) : (∀ x ∈ partsB (vB k l), inU asksU (bl x) = true) ∧ (partsB (vB k l)).length ≤ 8 := by
  have hm : ∀ v ∈ vB k l, (keptB (spl 44 v)).length ≤ 2 ∧ ∀ x ∈ keptB (spl 44 v), inU asksU (bl x) = true := by
    intro v hv
    unfold vB at hv
    obtain ⟨s, hs, rfl⟩ := List.mem_map.1 hv
    obtain ⟨p, hp, rfl⟩ := val_mem hs
    exact ⟨(tab_ok (h.2 p hp).2).2.2.1, (tab_ok (h.2 p hp).2).2.2.2⟩
  have hl : (vB k l).length ≤ 4 := by rw [vB_len]; exact Nat.le_trans (val_len k l) h.1
  have key : ∀ L : List (List UInt8), (∀ v ∈ L, (keptB (spl 44 v)).length ≤ 2 ∧ ∀ x ∈ keptB (spl 44 v), inU asksU (bl x) = true) → (∀ x ∈ partsB L, inU asksU (bl x) = true) ∧ (partsB L).length ≤ 2 * L.length := by
    intro L
    induction L with
    | nil => intro _; exact ⟨fun x hx => by simp [partsB] at hx, Nat.zero_le _⟩
    | cons v L ih =>
      intro hv
      obtain ⟨i1, i2⟩ := ih fun w hw => hv w (by simp [hw])
      obtain ⟨v1, v2⟩ := hv v (by simp)
      rw [partsB_cons]
      refine ⟨fun x hx => (List.mem_append.1 hx).elim (v2 x) (i1 x), ?_⟩
      rw [List.length_append, List.length_cons]
      omega
  obtain ⟨k1, k2⟩ := key _ hm
  exact ⟨k1, by omega⟩
/-! what is sent on -/
theorem set_okH {k x : ByteArray} {l : List (ByteArray × ByteArray)} (hk : inU namesU k = true) (hx : okVal x = true) (h : l.all okH = true) : (setL k x l).all okH = true :=
  List.all_eq_true.2 (set_ok hk hx (List.all_eq_true.1 h))
theorem okH_val {l : List (ByteArray × ByteArray)} (h : l.all okH = true) {p : ByteArray × ByteArray} (hp : p ∈ l) : okVal p.2 = true := by
  have := List.all_eq_true.1 h p hp
  unfold Go.Proofs.YtfjfdemnnhfmoaaGreatDoor.okH at this
  rw [Bool.and_eq_true] at this
  exact this.2
theorem jn_val {k s : ByteArray} {l : List (ByteArray × ByteArray)} (h : l.all okH = true) (hs : okVal s = true) (hz : (jn k l s).size ≤ 2000) : okVal (jn k l s) = true := by
  unfold okVal
  rw [Bool.and_eq_true, Nat.ble_eq]
  refine ⟨?_, hz⟩
  unfold jn
  rw [bl_list]
  refine fld_join _ fun v hv => ?_
  have hf : ∀ {t : ByteArray}, okVal t = true → fldB t.data.toList = true := fun ht => by unfold okVal at ht; rw [Bool.and_eq_true] at ht; exact ht.1
  rcases List.mem_append.1 hv with hv | hv
  · unfold vB at hv
    obtain ⟨t, ht, rfl⟩ := List.mem_map.1 hv
    obtain ⟨p, hp, rfl⟩ := val_mem ht
    exact hf (okH_val h hp)
  · rw [List.mem_singleton.1 hv]; exact hf hs
end Go.Proofs.YtfjfdemnnhfmoaaGreatDoor
