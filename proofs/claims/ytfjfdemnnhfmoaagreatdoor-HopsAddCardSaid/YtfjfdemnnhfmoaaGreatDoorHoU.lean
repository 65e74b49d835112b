/-
  Headers: the law's specifications, told for the list at hand.
-/
import Derived.Test.YtfjfdemnnhfmoaaGreatDoorHoT
namespace Go.Proofs.YtfjfdemnnhfmoaaGreatDoor
open Go.Ev Go.RowKit RecLaw PathLaw HopLaw

/-- A request, its parts named. -/
structure Rq where
  a : Int
  m : ByteArray
  ho : ByteArray
  p : ByteArray
  q : ByteArray
  f : ByteArray
  bd : ByteArray
  l : List (ByteArray × ByteArray)
def Rq.v (r : Rq) : Value := rqV r.a r.m r.ho r.p r.q r.f r.l r.bd
def Rq.ok (r : Rq) : Prop := okReq r.a r.m r.ho r.p r.q r.f r.bd = true ∧ DrH r.l
theorem rr_ex2 (zs : List Int) : ∃ (r : Rq) (d : Int), r.ok ∧ ∀ Q : Value → Option Obj → Prop, Q r.v (some (strm (intsV zs) d)) → rrT (intsV zs) 0 Q := by
  obtain ⟨v, d, ⟨a, m, ho, p, q, f, bd, l, rfl, h1, h2⟩, h3⟩ := rr_ex zs
  exact ⟨⟨a, m, ho, p, q, f, bd, l⟩, d, ⟨h1, h2⟩, h3⟩
theorem someRR : Tryz.f17.body.isSome = true := by kernel_rfl
theorem rr_fn {zs : List Int} {r : Rq} {d : Int} (h : ∀ Q : Value → Option Obj → Prop, Q r.v (some (strm (intsV zs) d)) → rrT (intsV zs) 0 Q) :
    FnOK 1 Tryz.prog 17 ⟨[.pointer (some ⟨0, 0, none⟩)]⟩ (Ev.h1 (strm (intsV zs) 0)) (fun v g => v = r.v ∧ g.get 0 = some (strm (intsV zs) d)) :=
  FnOK.ftree SRr_ok mixed Tryz.func17 someRR (rr (intsV zs) 0 (fun v o => v = r.v ∧ o = some (strm (intsV zs) d))) (h _ ⟨rfl, rfl⟩)
def gateB : ByteArray := ⟨#[103, 97, 116, 101, 45, 57]⟩
theorem gate_ok : inU namesU gateB = true ∧ okW gateB ∧ gateB.data.toList ≠ [] ∧ (44 : UInt8) ∉ gateB.data.toList := ⟨by kernel_rfl, ⟨by kernel_rfl, by decide⟩, by decide, by decide⟩
theorem Rq.req {r : Rq} (h : r.ok) : okRq r.a r.m r.ho r.p r.q r.f r.bd r.l = true ∧ okW r.ho ∧ okW r.f := by
  obtain ⟨h1, h2⟩ := h
  unfold okReq at h1
  simp only [Bool.and_eq_true] at h1
  obtain ⟨⟨⟨⟨⟨⟨⟨⟨⟨⟨⟨b0, b1⟩, b2⟩, b3⟩, b4⟩, b5⟩, b6⟩, b7⟩, b8⟩, b9⟩, b10⟩, b11⟩ := h1
  refine ⟨?_, ⟨b8, Nat.le_of_ble_eq_true b9⟩, b6, Nat.le_of_ble_eq_true b10⟩
  unfold okRq
  rw [b0, b1, b2, b3, b4, b5, b6, b7, h2.okH, Nat.ble_eq_true_of_le (Nat.le_trans h2.1 (by omega))]; rfl
theorem fw_r {r : Rq} (h : r.ok) : FnOK 0 Tryz.prog 18 ⟨[r.v, .string gateB]⟩ h0 (fun v _ => v = fwV r.a r.m r.ho r.p r.q r.f r.bd gateB r.l) := by
  obtain ⟨h1, h2, h3⟩ := Rq.req h
  have hp := DrH.parts (k := conB) h.2
  exact fw_fn h1 gate_ok.1 h.2.1 h.2.size hp.1 hp.2 gate_ok.2.1.2 h3.2 h2.2
/-- The headers that are sent on. -/
noncomputable def Rq.s (r : Rq) : List (ByteArray × ByteArray) := sent gateB r.ho r.f r.l
theorem Rq.req2 {r : Rq} (h : r.ok) {f : ByteArray} {l : List (ByteArray × ByteArray)} (hf : okVal f = true) (hl : l.all okH = true) (hn : l.length ≤ 50) : okRq r.a r.m r.ho r.p r.q f r.bd l = true := by
  have h1 := h.1
  unfold okReq at h1
  simp only [Bool.and_eq_true] at h1
  obtain ⟨⟨⟨⟨⟨⟨⟨⟨⟨⟨⟨b0, b1⟩, b2⟩, b3⟩, b4⟩, b5⟩, b6⟩, b7⟩, b8⟩, b9⟩, b10⟩, b11⟩ := h1
  unfold okRq
  rw [b0, b1, b2, b3, b4, b5, hf, b7, hl, Nat.ble_eq_true_of_le hn]; rfl
theorem parts_len2 {k : ByteArray} {l : List (ByteArray × ByteArray)} (hs : ∀ p ∈ l, p.2.size ≤ 510) (h4 : l.length ≤ 7) : (partsB (vB k l)).length ≤ 3600 := by
  have h1 := partsB_len (vB k l)
  have h2 : ∀ L : List (List UInt8), (∀ v ∈ L, v.length ≤ 510) → (L.map fun v => v.length + 1).sum ≤ 511 * L.length := by
    intro L
    induction L with
    | nil => intro _; exact Nat.zero_le _
    | cons a L ih =>
      intro h
      have := ih fun v hv => h v (by simp [hv])
      have := h a (by simp)
      rw [List.map_cons, List.sum_cons, List.length_cons]
      omega
  have h3 := h2 (vB k l) fun v hv => vB_mem hs hv
  have h5 := vB_len k l
  have h6 := val_len k l
  omega
theorem last_ok : okVal lastB = true := by kernel_rfl
theorem fw2_r {r : Rq} (h : r.ok) : FnOK 0 Tryz.prog 18 ⟨[rqV r.a r.m r.ho r.p r.q r.f r.s r.bd, .string gateB]⟩ h0 (fun v _ => v = eR 14) := by
  obtain ⟨h1, h2, h3⟩ := Rq.req h
  obtain ⟨s1, s2, s3, ⟨vs, sv⟩, _⟩ := sent_ok h.2 gate_ok.2.1 h2 h3
  refine fw2_fn (Rq.req2 h h3.1 s1 (Nat.le_trans s2 (by omega))) gate_ok.1 s2 (fun p hp => Nat.le_trans (s3 p hp) (by omega)) ?_ (sent_via h.2 gate_ok.2.1 h2 h3 gate_ok.2.2.1 gate_ok.2.2.2)
  exact Nat.le_trans (parts_len2 s3 s2) (by omega)
theorem cl_r {r : Rq} (h : r.ok) : FnOK 1 Tryz.prog 19 ⟨[rqV r.a r.m r.ho r.p r.q lastB r.s r.bd, clA]⟩ clG (fun v g => clQ r.s v (g.get 0)) := by
  obtain ⟨h1, h2, h3⟩ := Rq.req h
  obtain ⟨s1, s2, s3, _, _⟩ := sent_ok h.2 gate_ok.2.1 h2 h3
  exact cl_fn (Rq.req2 h last_ok s1 (Nat.le_trans s2 (by omega))) s2 (fun p hp => Nat.le_trans (s3 p hp) (by omega)) (Nat.le_trans (parts_len2 s3 s2) (by omega))
end Go.Proofs.YtfjfdemnnhfmoaaGreatDoor
