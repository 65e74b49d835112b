/-
  Values near another one: Near hands back a right value.
-/
import Derived.Test.YtljfobpjblnagaaGreatDoorVaP
namespace Go.Proofs.YtljfobpjblnagaaGreatDoor
open Go.Ev Go.RowKit
set_option maxRecDepth 100000

theorem okD_cases {k : Int} {f : Bool} {n : Int} {w : List UInt8} (h : ValLaw.okD (k, f, n, w)) : (0 ≤ k ∧ k ≤ 3) ∨ (k = 4 ∧ f = false ∧ n = 0 ∧ w = []) ∨ (k = 5 ∧ f = false ∧ n = 0 ∧ w = []) := by
  obtain ⟨⟨h1, h2, h3, h4, h5⟩, _, _, _⟩ := h
  simp only at h1 h2 h3 h4 h5
  by_cases q : k ≤ 3
  · exact .inl ⟨h1, q⟩
  · have a := h3.resolve_left (by omega)
    have b := h4.resolve_left (by omega)
    have c := h5.resolve_left (by omega)
    have : k = 4 ∨ k = 5 := by omega
    rcases this with r | r
    · exact .inr (.inl ⟨r, a, b, c⟩)
    · exact .inr (.inr ⟨r, a, b, c⟩)
theorem gv_list {c : Nat} {L : List (ValLaw.T c)} (h1 : L.length ≤ 4) (h2 : ∀ x ∈ L, ValLaw.GV c x) : ValLaw.GV (c + 1) ((4, false, 0, []), L, []) :=
  ⟨okD4, .inl rfl, .inr rfl, h2, fun x hx => (by cases hx), Nat.le_trans h1 (by decide), List.nil_sublist _⟩
theorem gv_mem {c : Nat} {P : List (ValLaw.W × ValLaw.T c)} (h1 : (P.map (fun q : ValLaw.W × ValLaw.T c => q.1)).Sublist ValLaw.namesU) (h2 : ∀ p ∈ P, ValLaw.GV c p.2) : ValLaw.GV (c + 1) ((5, false, 0, []), [], P) :=
  ⟨okD5, .inr rfl, .inl rfl, fun x hx => (by cases hx), h2, Nat.zero_le _, h1⟩
theorem near_ex0 {zs : List Int} (H1 : RvEx zs 1) (H2 : RvEx zs 2) : NearEx zs 0 := by
  intro v hv e h0 h1
  have h1 : e + 2000 ≤ 900000 := h1
  show ∃ (w : ValLaw.T 2) (e' : Int), ValLaw.GV 2 w ∧ e ≤ e' ∧ e' ≤ e + 2000 ∧ NrF (intsV zs) e e' (enc 0 v) (enc 2 w)
  have hup : enc 2 (up2 0 v) = enc 0 v := up2_enc 0 v
  obtain ⟨k, f, n, w⟩ := v
  rcases okD_cases hv with ⟨q1, q2⟩ | ⟨rfl, rfl, rfl, rfl⟩ | ⟨rfl, rfl, rfl, rfl⟩
  · obtain ⟨y, e', hy, a1, a2, a3⟩ := nr_low H2 f n (bl w) q1 q2 h0 (by omega)
    rcases hy with ⟨x, hx, rfl⟩ | rfl
    · exact ⟨x, e', ValLaw.gr_gv hx, a1, by omega, a3⟩
    · exact ⟨up2 0 (k, f, n, w), e', up2_gv (ValLaw.gr_gv hv), a1, by omega, by rw [hup]; exact a3⟩
  · obtain ⟨y, e', hy, a1, a2, a3⟩ := nr_l0 H2 H1 (c := 1) (fun x hx => ⟨x, ValLaw.gr_gv hx, rfl⟩) h0 (by omega)
    rcases hy with ⟨x, hx, rfl⟩ | ⟨L, l1, l2, rfl⟩
    · exact ⟨x, e', ValLaw.gr_gv hx, a1, by omega, a3⟩
    · exact ⟨((4, false, 0, []), L, []), e', gv_list l1 l2, a1, by omega, a3⟩
  · obtain ⟨y, e', hy, a1, a2, a3⟩ := nr_mem (m := 0) (B := 0) H2 H1 (c := 1) (fun x hx => ⟨x, ValLaw.gr_gv hx, rfl⟩) [] (List.nil_sublist _) (fun p hp => by cases hp) h0 (by omega)
    rcases hy with ⟨x, hx, rfl⟩ | ⟨P, l1, l2, rfl⟩
    · exact ⟨x, e', ValLaw.gr_gv hx, a1, by omega, a3⟩
    · exact ⟨((5, false, 0, []), [], P), e', gv_mem l1 l2, a1, by omega, a3⟩
theorem near_exS {zs : List Int} {m : Nat} (H1 : RvEx zs 1) (H2 : RvEx zs 2) (IH : NearEx zs m) : NearEx zs (m + 1) := by
  intro v hv e h0 h1
  have h1 : e + ((2000 + 7 * (2 + mN m) : Nat) : Int) ≤ 900000 := h1
  show ∃ (w : ValLaw.T (m + 2 + 1)) (e' : Int), ValLaw.GV (m + 2 + 1) w ∧ e ≤ e' ∧ e' ≤ e + ((2000 + 7 * (2 + mN m) : Nat) : Int) ∧ NrF (intsV zs) e e' (enc (m + 1) v) (enc (m + 2 + 1) w)
  obtain ⟨⟨k, f, n, w⟩, L, M⟩ := v
  obtain ⟨g1, g2, g3, g4, g5, g6, g7⟩ := hv
  simp only at g2 g3 g4 g5 g6 g7
  have big : ∀ {x : ValLaw.T 2}, ValLaw.GR 2 x → ∃ w : ValLaw.T (m + 2 + 1), ValLaw.GV (m + 2 + 1) w ∧ enc (m + 2 + 1) w = enc 2 x := fun {x} hx => t2_up (m + 1) hx
  rcases okD_cases g1 with ⟨q1, q2⟩ | ⟨rfl, rfl, rfl, rfl⟩ | ⟨rfl, rfl, rfl, rfl⟩
  · obtain rfl := g2.resolve_left (by omega)
    obtain rfl := g3.resolve_left (by omega)
    obtain ⟨y, e', hy, a1, a2, a3⟩ := nr_low H2 f n (bl w) q1 q2 h0 (by omega)
    rcases hy with ⟨x, hx, rfl⟩ | rfl
    · obtain ⟨u, u1, u2⟩ := big hx
      exact ⟨u, e', u1, a1, by omega, by rw [u2]; exact a3⟩
    · exact ⟨((k, f, n, w), [], []), e', ⟨g1, .inr rfl, .inr rfl, fun x hx => (by cases hx), fun x hx => (by cases hx), Nat.zero_le _, List.nil_sublist _⟩, a1, by omega, a3⟩
  · obtain rfl := g3.resolve_left (by omega)
    have fin : (∃ (y : Value) (e' : Int), ((∃ x : ValLaw.T 2, ValLaw.GR 2 x ∧ y = enc 2 x) ∨ ∃ L' : List (ValLaw.T (m + 2)), L'.length ≤ 4 ∧ (∀ x ∈ L', ValLaw.GV (m + 2) x) ∧ y = vV 4 false 0 ⟨#[]⟩ (L'.map (enc (m + 2))) []) ∧ e ≤ e' ∧ e' ≤ e + ((2000 + 7 * (2 + mN m) : Nat) : Int) ∧ NrF (intsV zs) e e' (vV 4 false 0 ⟨#[]⟩ (L.map (enc m)) []) y) →
        ∃ (w : ValLaw.T (m + 2 + 1)) (e' : Int), ValLaw.GV (m + 2 + 1) w ∧ e ≤ e' ∧ e' ≤ e + ((2000 + 7 * (2 + mN m) : Nat) : Int) ∧ NrF (intsV zs) e e' (enc (m + 1) ((4, false, 0, []), L, [])) (enc (m + 2 + 1) w) := by
      rintro ⟨y, e', hy, a1, a2, a3⟩
      rcases hy with ⟨x, hx, rfl⟩ | ⟨L', l1, l2, rfl⟩
      · obtain ⟨u, u1, u2⟩ := big hx
        exact ⟨u, e', u1, a1, a2, by rw [u2]; exact a3⟩
      · exact ⟨((4, false, 0, []), L', []), e', gv_list l1 l2, a1, a2, a3⟩
    refine fin ?_
    match L, g4, g6 with
    | [], _, _ =>
      obtain ⟨y, e', hy, a1, a2, a3⟩ := nr_l0 H2 H1 (c := m + 2) (fun x hx => t1_up (m + 1) hx) h0 (by omega)
      exact ⟨y, e', hy, a1, by omega, a3⟩
    | [v0], g4, _ =>
      obtain ⟨y, e', hy, a1, a2, a3⟩ := nls1 IH H2 H1 (g4 v0 (by simp)) h0 (by omega)
      exact ⟨y, e', hy, a1, by omega, a3⟩
    | [v0, v1], g4, _ =>
      obtain ⟨y, e', hy, a1, a2, a3⟩ := nls2 IH H2 H1 (g4 v0 (by simp)) (g4 v1 (by simp)) h0 (by omega)
      exact ⟨y, e', hy, a1, by omega, a3⟩
    | [v0, v1, v2], g4, _ =>
      obtain ⟨y, e', hy, a1, a2, a3⟩ := nls3 IH H2 H1 (g4 v0 (by simp)) (g4 v1 (by simp)) (g4 v2 (by simp)) h0 (by omega)
      exact ⟨y, e', hy, a1, by omega, a3⟩
    | _ :: _ :: _ :: _ :: _, _, g6 => simp at g6
  · obtain rfl := g2.resolve_left (by omega)
    obtain ⟨y, e', hy, a1, a2, a3⟩ := nr_mem (m := m) (B := mN m) H2 H1 (c := m + 2) (fun x hx => t1_up (m + 1) hx) M g7 (fun p hp => ⟨⟨up2 m p.2, up2_gv (ValLaw.gr_gv (g5 p hp)), up2_enc m p.2⟩, fun e h0 h1 => IH p.2 (g5 p hp) e h0 h1⟩) h0 (by omega)
    rcases hy with ⟨x, hx, rfl⟩ | ⟨P, l1, l2, rfl⟩
    · obtain ⟨u, u1, u2⟩ := big hx
      exact ⟨u, e', u1, a1, by omega, by rw [u2]; exact a3⟩
    · exact ⟨((5, false, 0, []), [], P), e', gv_mem l1 l2, a1, by omega, a3⟩
theorem near_ex (zs : List Int) : NearEx zs 2 :=
  have ⟨_, H1, H2⟩ := rv_ex zs
  near_exS H1 H2 (near_exS H1 H2 (near_ex0 H1 H2))
end Go.Proofs.YtljfobpjblnagaaGreatDoor
