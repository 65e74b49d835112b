/-
  Catalogs that are drawn are right.
-/
import Derived.Test.YtfepnpffbhjakaaGreatDoorPgG
namespace Go.Proofs.YtfepnpffbhjakaaGreatDoor
open Go.Ev Go.RowKit PriceLaw

theorem pr_in (r : Int) (h0 : 0 ≤ r) (h1 : r < 3) : (isMaps (gS prL r) || isShop (gS prL r)) = true := by
  have : r = 0 ∨ r = 1 ∨ r = 2 := by omega
  rcases this with rfl | rfl | rfl <;> decide
theorem ba_in (r : Int) (h0 : 0 ≤ r) (h1 : r < 5) : 0 ≤ gI baL r ∧ gI baL r ≤ 3000 := by
  have : r = 0 ∨ r = 1 ∨ r = 2 ∨ r = 3 ∨ r = 4 := by omega
  rcases this with rfl | rfl | rfl | rfl | rfl <;> decide
theorem fr_in (r : Int) (h0 : 0 ≤ r) (h1 : r < 3) : 0 ≤ gI frL r ∧ gI frL r ≤ 100 := by
  have : r = 0 ∨ r = 1 ∨ r = 2 := by omega
  rcases this with rfl | rfl | rfl <;> decide
theorem li_in (r : Int) (h0 : 0 ≤ r) (h1 : r < 4) : -1 ≤ gI liL r ∧ gI liL r ≤ 1000 := by
  have : r = 0 ∨ r = 1 ∨ r = 2 ∨ r = 3 := by omega
  rcases this with rfl | rfl | rfl | rfl <;> decide
theorem tr_in (r : Int) (h0 : 0 ≤ r) (h1 : r < 4) : 0 ≤ gI trL r ∧ gI trL r ≤ 2 := by
  have : r = 0 ∨ r = 1 ∨ r = 2 ∨ r = 3 := by omega
  rcases this with rfl | rfl | rfl | rfl <;> decide
theorem ce_in (r : Int) (h0 : 0 ≤ r) (h1 : r < 4) : 0 ≤ gI ceL r ∧ gI ceL r ≤ 1500 := by
  have : r = 0 ∨ r = 1 ∨ r = 2 ∨ r = 3 := by omega
  rcases this with rfl | rfl | rfl | rfl <;> decide
theorem tiD_ok (zs : List Int) : ∀ (n : Nat) (e f : Int), 0 ≤ e → e + 2 * n ≤ 1000000 → 1 ≤ f → f + 100 * n ≤ 1000 → okT (tiD (intsV zs) n e f) ∧ (∀ g, g < f → riseT g (tiD (intsV zs) n e f)) ∧ (tiD (intsV zs) n e f).length = n
  | 0, e, f, _, _, _, _ => ⟨fun t ht => (by cases ht), fun g _ => trivial, rfl⟩
  | n + 1, e, f, h0, h1, h2, h3 => by
    have hb := (nextR_spec zs 4 e h0 (by omega) (by omega) (by omega)).1
    have hc := ce_in _ hb.1 hb.2
    have hs := st_at zs (e := e + 1) (by omega) (by omega)
    obtain ⟨q1, q2, q3⟩ := tiD_ok zs n (e + 1 + 1) (f + gI stL (nextR (intsV zs) (e + 1) 3)) (by omega) (by omega) (by omega) (by omega)
    refine ⟨fun t ht => ?_, fun g hg => ⟨hg, q2 f (by omega)⟩, by rw [tiD, List.length_cons, q3]⟩
    rcases List.mem_cons.1 ht with rfl | ht
    · exact ⟨hc.1, hc.2, h2, by show f ≤ 1000; omega⟩
    · exact q1 t ht
theorem tiD_ts (zs : List Int) {n : Nat} (hn : n ≤ 3) {e : Int} (h0 : 0 ≤ e) (h1 : e ≤ 900000) : okTs (tiD (intsV zs) n e 1) := by
  obtain ⟨q1, q2, q3⟩ := tiD_ok zs n e 1 h0 (by omega) (by omega) (by omega)
  refine ⟨q1, by omega, ?_⟩
  cases n with
  | zero => trivial
  | succ n => exact ⟨rfl, (q2 0 (by omega)).2⟩
theorem plN_ok (zs : List Int) {d : Int} (h0 : 0 ≤ d) (h1 : d ≤ 100000) (key : ByteArray) {n : Nat} (hn : n ≤ 3) : okPl (plN (intsV zs) d key n) := by
  have b1 := (nextR_spec zs 3 (d + 1) (by omega) (by omega) (by omega) (by omega)).1
  have b2 := (nextR_spec zs 5 (d + 1 + 1) (by omega) (by omega) (by omega) (by omega)).1
  have b3 := (nextR_spec zs 3 (d + 1 + 1 + 1) (by omega) (by omega) (by omega) (by omega)).1
  have b4 := (nextR_spec zs 4 (d + 1 + 1 + 1 + 1) (by omega) (by omega) (by omega) (by omega)).1
  have b5 := (nextR_spec zs 4 (d + 1 + 1 + 1 + 1 + 1) (by omega) (by omega) (by omega) (by omega)).1
  have i2 := ba_in _ b2.1 b2.2
  have i3 := fr_in _ b3.1 b3.2
  have i4 := li_in _ b4.1 b4.2
  have i5 := tr_in _ b5.1 b5.2
  exact ⟨pr_in _ b1.1 b1.2, i2.1, i2.2, i3.1, i3.2, tiD_ts zs hn (by omega) (by omega), i4.1, i4.2, i5.1, i5.2⟩
theorem nuD_le (zs : List Int) {d : Int} (h0 : 0 ≤ d) (h1 : d ≤ 100000) : nuD (intsV zs) d ≤ 3 := by
  have hb := (nextR_spec zs 4 (d + 1 + 1 + 1 + 1 + 1 + 1 + 1) (by omega) (by omega) (by omega) (by omega)).1
  unfold nuD
  rcases nu_in _ hb.1 hb.2 with h | h | h | h <;> rw [h] <;> decide
theorem beqN_self : ∀ a : List Nat, beqN a a = true
  | [] => rfl
  | x :: l => by
    have := beqN_self l
    simp [beqN, this]
instance byteDec : DecidableEq ByteArray := fun a b => if h : beqN (natsOf a) (natsOf b) = true then isTrue (natsOf_inj (beqN_eq h)) else isFalse (fun e => h (e ▸ beqN_self _))
/-- All ways to leave keys out. -/
def subK : Nat → Nat → List (List ByteArray)
  | 0, _ => [[]]
  | r + 1, i => subK r (i + 1) ++ (subK r (i + 1)).map (fun l => gS keyC i :: l)
theorem catR_ok (zs : List Int) : ∀ (r i : Nat) (d : Int), 0 ≤ d → d + 20 * r ≤ 100000 → (catR (intsV zs) r i d).1.map Pl.key ∈ subK r i ∧ (∀ p ∈ (catR (intsV zs) r i d).1, okPl p) ∧ 0 ≤ (catR (intsV zs) r i d).2 ∧ (catR (intsV zs) r i d).2 ≤ d + 20 * r
  | 0, i, d, h0, h1 => ⟨List.mem_singleton.2 rfl, fun p hp => (by cases hp), h0, (by show d ≤ d + 20 * ((0 : Nat) : Int); omega)⟩
  | r + 1, i, d, h0, h1 => by
    by_cases hz : nextR (intsV zs) d 5 = 0
    · obtain ⟨q1, q2, q3, q4⟩ := catR_ok zs r (i + 1) (d + 1) (by omega) (by omega)
      rw [catR, if_pos hz]
      exact ⟨List.mem_append.2 (Or.inl q1), q2, q3, by omega⟩
    · have hn := nuD_le zs h0 (show d ≤ 100000 by omega)
      have he : plE (nuD (intsV zs) d) d = d + 8 + 2 * nuD (intsV zs) d := by unfold plE; rw [twice_eq]; omega
      obtain ⟨q1, q2, q3, q4⟩ := catR_ok zs r (i + 1) (plE (nuD (intsV zs) d) d) (by omega) (by omega)
      rw [catR, if_neg hz]
      refine ⟨List.mem_append.2 (Or.inr (List.mem_map.2 ⟨_, q1, rfl⟩)), fun p hp => ?_, q3, by omega⟩
      rcases List.mem_cons.1 hp with rfl | hp
      · exact plN_ok zs h0 (by omega) _ hn
      · exact q2 p hp
theorem subK_keys : ∀ ks ∈ subK 4 0, ks ∈ keyS := by
  have e : subK 4 0 = [[], [⟨#[115, 109, 97, 108, 108]⟩], [⟨#[109, 105, 100]⟩], [⟨#[109, 105, 100]⟩, ⟨#[115, 109, 97, 108, 108]⟩], [⟨#[102, 114, 101, 101]⟩], [⟨#[102, 114, 101, 101]⟩, ⟨#[115, 109, 97, 108, 108]⟩], [⟨#[102, 114, 101, 101]⟩, ⟨#[109, 105, 100]⟩], [⟨#[102, 114, 101, 101]⟩, ⟨#[109, 105, 100]⟩, ⟨#[115, 109, 97, 108, 108]⟩], [⟨#[98, 105, 103]⟩], [⟨#[98, 105, 103]⟩, ⟨#[115, 109, 97, 108, 108]⟩], [⟨#[98, 105, 103]⟩, ⟨#[109, 105, 100]⟩], [⟨#[98, 105, 103]⟩, ⟨#[109, 105, 100]⟩, ⟨#[115, 109, 97, 108, 108]⟩], [⟨#[98, 105, 103]⟩, ⟨#[102, 114, 101, 101]⟩], [⟨#[98, 105, 103]⟩, ⟨#[102, 114, 101, 101]⟩, ⟨#[115, 109, 97, 108, 108]⟩], [⟨#[98, 105, 103]⟩, ⟨#[102, 114, 101, 101]⟩, ⟨#[109, 105, 100]⟩], [⟨#[98, 105, 103]⟩, ⟨#[102, 114, 101, 101]⟩, ⟨#[109, 105, 100]⟩, ⟨#[115, 109, 97, 108, 108]⟩]] := rfl
  intro ks h
  rw [e] at h
  simp only [List.mem_cons, List.not_mem_nil, or_false] at h
  rcases h with rfl | rfl | rfl | rfl | rfl | rfl | rfl | rfl | rfl | rfl | rfl | rfl | rfl | rfl | rfl | rfl <;> simp [keyS]
theorem catL_ok (zs : List Int) : Lok (catL (intsV zs)) ∧ 0 ≤ catE (intsV zs) ∧ catE (intsV zs) ≤ 1000 := by
  have hb := (nextR_spec zs 5 0 (by omega) (by omega) (by omega) (by omega)).1
  have e0 : 0 ≤ scE (intsV zs) 0 := by unfold scE; omega
  have e1 : scE (intsV zs) 0 ≤ 10 := by unfold scE; omega
  obtain ⟨q1, q2, q3, q4⟩ := catR_ok zs 4 0 (scE (intsV zs) 0) e0 (by omega)
  exact ⟨⟨subK_keys _ q1, q2⟩, q3, by unfold catE; omega⟩
theorem keyS_pw : ∀ ks ∈ keyS, ks.Pairwise (fun a b => a ≠ b) := by decide
theorem key_pw {L : List Pl} (h : Lok L) : L.Pairwise (fun a b => a.key ≠ b.key) := List.pairwise_map.1 (keyS_pw _ h.1)
theorem keyS_eq : ∀ ks ∈ keyS, ∀ a ∈ ks, ∀ b ∈ ks, (a.toList == b.toList) = true → a = b := by decide +kernel
theorem key_eq {L : List Pl} (h : Lok L) {p q : Pl} (hp : p ∈ L) (hq : q ∈ L) (he : (p.key.toList == q.key.toList) = true) : p.key = q.key :=
  keyS_eq _ h.1 _ (List.mem_map.2 ⟨p, hp, rfl⟩) _ (List.mem_map.2 ⟨q, hq, rfl⟩) he
theorem pcL_at : ∀ {L : List Pl} {calls : Int}, L.Pairwise (fun a b => a.key ≠ b.key) → ∀ {p : Pl}, p ∈ L → pcL calls p.key L = price p.tiers p.free calls
  | x :: l, calls, hd, p, hp => by
    obtain ⟨d1, d2⟩ := List.pairwise_cons.1 hd
    rcases List.mem_cons.1 hp with e | hp
    · subst e
      exact pcL_here (beqN_self _)
    · have hne : beqN (natsOf x.key) (natsOf p.key) = false := by
        cases hb : beqN (natsOf x.key) (natsOf p.key) with
        | false => rfl
        | true => exact absurd (natsOf_inj (beqN_eq hb)) (d1 p hp)
      rw [pcL_next hne]
      exact pcL_at d2 hp
theorem pcV_at {L : List Pl} (h : Lok L) {p : Pl} (hp : p ∈ L) (calls : Int) : pcV (L.map plV) p.key calls = price p.tiers p.free calls := by
  unfold pcV
  rw [unPl_map]
  exact pcL_at (key_pw h) hp
theorem hasK_at {L : List Pl} {p : Pl} (hp : p ∈ L) : hasK (L.map plV) p.key = true := by
  unfold hasK
  rw [unPl_map]
  exact List.any_eq_true.2 ⟨p, hp, beqN_self _⟩
end Go.Proofs.YtfepnpffbhjakaaGreatDoor
