/-
  The function Price as a specification.
-/
import Derived.Test.YtfepnpffbhjakaaGreatDoorPgC
namespace Go.Proofs.YtfepnpffbhjakaaGreatDoor
open Go.Ev Go.RowKit PriceLaw

def pcL (calls : Int) (k : ByteArray) : List Pl → Int
  | [] => 0
  | p :: l => cond (beqN (natsOf p.key) (natsOf k)) (price p.tiers p.free calls) (pcL calls k l)
def pcV (vs : List Value) (k : ByteArray) (calls : Int) : Int := pcL calls k (vs.map unPl)
def hasK (vs : List Value) (k : ByteArray) : Bool := (vs.map unPl).any fun p => beqN (natsOf p.key) (natsOf k)
theorem pcL_here {calls : Int} {k : ByteArray} {p : Pl} {l : List Pl} (h : beqN (natsOf p.key) (natsOf k) = true) : pcL calls k (p :: l) = price p.tiers p.free calls := by rw [pcL, h]; rfl
theorem pcL_next {calls : Int} {k : ByteArray} {p : Pl} {l : List Pl} (h : beqN (natsOf p.key) (natsOf k) = false) : pcL calls k (p :: l) = pcL calls k l := by rw [pcL, h]; rfl
theorem fin_pc {p : Pl} (o : okPl p) {calls : Int} (h0 : 0 ≤ calls) (h1 : calls ≤ 1000) {vs : List Value} {P : Value} (hP : okP P = true) (hV : okV vs = true) {X Y : Prop} (hX : X) :
    bif okP P && okV vs then bif decide (calls < 0) then Y else bif decide (calls > 1000000000000) then Y else
      bif okTl (p.tiers.map tierE) && decide (0 ≤ p.free) && decide (p.free ≤ 1000) && decide (0 ≤ calls) && decide (calls ≤ 1000) then X else False else False := by
  have := o.free0; have := o.free1
  refine need_mk (by rw [hP, hV]; rfl) (pick_f (decide_eq_false (by omega)) (pick_f (decide_eq_false (by omega)) (need_mk ?_ hX)))
  rw [tl_ok o]
  simp; omega
theorem prV_pl (p : Pl) (calls : Int) : prV (p.tiers.map tierE) p.free calls = price p.tiers p.free calls := by unfold prV; rw [unE_map]
theorem pc0_0_fn {P : Value} (hP : okP P = true) {calls : Int} (c0 : 0 ≤ calls) (c1 : calls ≤ 1000) {L : List Pl} (hk : L.map Pl.key = [⟨#[98, 105, 103]⟩]) (ho : ∀ p ∈ L, okPl p) (hV : okV (L.map plV) = true) :
    FnOK 0 Tryz.prog 7 ⟨[.agg ⟨[P, fz ⟨L.map plV⟩]⟩, .string ⟨#[98, 105, 103]⟩, .int .i64 calls]⟩ h0 (fun v _ => v = .tuple ⟨[.int .i64 (pcL calls ⟨#[98, 105, 103]⟩ L), .int .i64 0]⟩) := by
  obtain ⟨p0, L0, rfl, e0, h0⟩ := m1 hk
  have := m0 h0
  subst this
  have o0 := ho p0 (by simp)
  obtain ⟨k0, pr0, ba0, fr0, ts0, li0, tr0, as0⟩ := p0
  simp only at e0
  subst e0
  rw [pcL_here (by rfl)]
  exact FnOK.ftree SC2_ok mixed Tryz.func7 somePC (pc0_0 P calls pr0 ba0 fr0 li0 tr0 (ts0.map tierE) as0 (fun v => v = .tuple ⟨[.int .i64 (price ts0 fr0 calls), .int .i64 0]⟩)) (fin_pc o0 c0 c1 hP hV (by rw [show prV (ts0.map tierE) fr0 calls = price ts0 fr0 calls by unfold prV; rw [unE_map]]))
theorem pc1_1_fn {P : Value} (hP : okP P = true) {calls : Int} (c0 : 0 ≤ calls) (c1 : calls ≤ 1000) {L : List Pl} (hk : L.map Pl.key = [⟨#[102, 114, 101, 101]⟩]) (ho : ∀ p ∈ L, okPl p) (hV : okV (L.map plV) = true) :
    FnOK 0 Tryz.prog 7 ⟨[.agg ⟨[P, fz ⟨L.map plV⟩]⟩, .string ⟨#[102, 114, 101, 101]⟩, .int .i64 calls]⟩ h0 (fun v _ => v = .tuple ⟨[.int .i64 (pcL calls ⟨#[102, 114, 101, 101]⟩ L), .int .i64 0]⟩) := by
  obtain ⟨p1, L1, rfl, e1, h1⟩ := m1 hk
  have := m0 h1
  subst this
  have o1 := ho p1 (by simp)
  obtain ⟨k1, pr1, ba1, fr1, ts1, li1, tr1, as1⟩ := p1
  simp only at e1
  subst e1
  rw [pcL_here (by rfl)]
  exact FnOK.ftree SC2_ok mixed Tryz.func7 somePC (pc1_1 P calls pr1 ba1 fr1 li1 tr1 (ts1.map tierE) as1 (fun v => v = .tuple ⟨[.int .i64 (price ts1 fr1 calls), .int .i64 0]⟩)) (fin_pc o1 c0 c1 hP hV (by rw [show prV (ts1.map tierE) fr1 calls = price ts1 fr1 calls by unfold prV; rw [unE_map]]))
theorem pc2_2_fn {P : Value} (hP : okP P = true) {calls : Int} (c0 : 0 ≤ calls) (c1 : calls ≤ 1000) {L : List Pl} (hk : L.map Pl.key = [⟨#[109, 105, 100]⟩]) (ho : ∀ p ∈ L, okPl p) (hV : okV (L.map plV) = true) :
    FnOK 0 Tryz.prog 7 ⟨[.agg ⟨[P, fz ⟨L.map plV⟩]⟩, .string ⟨#[109, 105, 100]⟩, .int .i64 calls]⟩ h0 (fun v _ => v = .tuple ⟨[.int .i64 (pcL calls ⟨#[109, 105, 100]⟩ L), .int .i64 0]⟩) := by
  obtain ⟨p2, L2, rfl, e2, h2⟩ := m1 hk
  have := m0 h2
  subst this
  have o2 := ho p2 (by simp)
  obtain ⟨k2, pr2, ba2, fr2, ts2, li2, tr2, as2⟩ := p2
  simp only at e2
  subst e2
  rw [pcL_here (by rfl)]
  exact FnOK.ftree SC2_ok mixed Tryz.func7 somePC (pc2_2 P calls pr2 ba2 fr2 li2 tr2 (ts2.map tierE) as2 (fun v => v = .tuple ⟨[.int .i64 (price ts2 fr2 calls), .int .i64 0]⟩)) (fin_pc o2 c0 c1 hP hV (by rw [show prV (ts2.map tierE) fr2 calls = price ts2 fr2 calls by unfold prV; rw [unE_map]]))
theorem pc3_3_fn {P : Value} (hP : okP P = true) {calls : Int} (c0 : 0 ≤ calls) (c1 : calls ≤ 1000) {L : List Pl} (hk : L.map Pl.key = [⟨#[115, 109, 97, 108, 108]⟩]) (ho : ∀ p ∈ L, okPl p) (hV : okV (L.map plV) = true) :
    FnOK 0 Tryz.prog 7 ⟨[.agg ⟨[P, fz ⟨L.map plV⟩]⟩, .string ⟨#[115, 109, 97, 108, 108]⟩, .int .i64 calls]⟩ h0 (fun v _ => v = .tuple ⟨[.int .i64 (pcL calls ⟨#[115, 109, 97, 108, 108]⟩ L), .int .i64 0]⟩) := by
  obtain ⟨p3, L3, rfl, e3, h3⟩ := m1 hk
  have := m0 h3
  subst this
  have o3 := ho p3 (by simp)
  obtain ⟨k3, pr3, ba3, fr3, ts3, li3, tr3, as3⟩ := p3
  simp only at e3
  subst e3
  rw [pcL_here (by rfl)]
  exact FnOK.ftree SC2_ok mixed Tryz.func7 somePC (pc3_3 P calls pr3 ba3 fr3 li3 tr3 (ts3.map tierE) as3 (fun v => v = .tuple ⟨[.int .i64 (price ts3 fr3 calls), .int .i64 0]⟩)) (fin_pc o3 c0 c1 hP hV (by rw [show prV (ts3.map tierE) fr3 calls = price ts3 fr3 calls by unfold prV; rw [unE_map]]))
theorem pc01_0_fn {P : Value} (hP : okP P = true) {calls : Int} (c0 : 0 ≤ calls) (c1 : calls ≤ 1000) {L : List Pl} (hk : L.map Pl.key = [⟨#[98, 105, 103]⟩, ⟨#[102, 114, 101, 101]⟩]) (ho : ∀ p ∈ L, okPl p) (hV : okV (L.map plV) = true) :
    FnOK 0 Tryz.prog 7 ⟨[.agg ⟨[P, fz ⟨L.map plV⟩]⟩, .string ⟨#[98, 105, 103]⟩, .int .i64 calls]⟩ h0 (fun v _ => v = .tuple ⟨[.int .i64 (pcL calls ⟨#[98, 105, 103]⟩ L), .int .i64 0]⟩) := by
  obtain ⟨p0, L0, rfl, e0, h0⟩ := m1 hk
  obtain ⟨p1, L1, rfl, e1, h1⟩ := m1 h0
  have := m0 h1
  subst this
  have o0 := ho p0 (by simp)
  have o1 := ho p1 (by simp)
  obtain ⟨k0, pr0, ba0, fr0, ts0, li0, tr0, as0⟩ := p0
  simp only at e0
  subst e0
  obtain ⟨k1, pr1, ba1, fr1, ts1, li1, tr1, as1⟩ := p1
  simp only at e1
  subst e1
  rw [pcL_here (by rfl)]
  exact FnOK.ftree SC2_ok mixed Tryz.func7 somePC (pc01_0 P calls pr0 ba0 fr0 li0 tr0 (ts0.map tierE) as0 pr1 ba1 fr1 li1 tr1 (ts1.map tierE) as1 (fun v => v = .tuple ⟨[.int .i64 (price ts0 fr0 calls), .int .i64 0]⟩)) (fin_pc o0 c0 c1 hP hV (by rw [show prV (ts0.map tierE) fr0 calls = price ts0 fr0 calls by unfold prV; rw [unE_map]]))
theorem pc01_1_fn {P : Value} (hP : okP P = true) {calls : Int} (c0 : 0 ≤ calls) (c1 : calls ≤ 1000) {L : List Pl} (hk : L.map Pl.key = [⟨#[98, 105, 103]⟩, ⟨#[102, 114, 101, 101]⟩]) (ho : ∀ p ∈ L, okPl p) (hV : okV (L.map plV) = true) :
    FnOK 0 Tryz.prog 7 ⟨[.agg ⟨[P, fz ⟨L.map plV⟩]⟩, .string ⟨#[102, 114, 101, 101]⟩, .int .i64 calls]⟩ h0 (fun v _ => v = .tuple ⟨[.int .i64 (pcL calls ⟨#[102, 114, 101, 101]⟩ L), .int .i64 0]⟩) := by
  obtain ⟨p0, L0, rfl, e0, h0⟩ := m1 hk
  obtain ⟨p1, L1, rfl, e1, h1⟩ := m1 h0
  have := m0 h1
  subst this
  have o0 := ho p0 (by simp)
  have o1 := ho p1 (by simp)
  obtain ⟨k0, pr0, ba0, fr0, ts0, li0, tr0, as0⟩ := p0
  simp only at e0
  subst e0
  obtain ⟨k1, pr1, ba1, fr1, ts1, li1, tr1, as1⟩ := p1
  simp only at e1
  subst e1
  rw [pcL_next (by rfl), pcL_here (by rfl)]
  exact FnOK.ftree SC2_ok mixed Tryz.func7 somePC (pc01_1 P calls pr0 ba0 fr0 li0 tr0 (ts0.map tierE) as0 pr1 ba1 fr1 li1 tr1 (ts1.map tierE) as1 (fun v => v = .tuple ⟨[.int .i64 (price ts1 fr1 calls), .int .i64 0]⟩)) (fin_pc o1 c0 c1 hP hV (by rw [show prV (ts1.map tierE) fr1 calls = price ts1 fr1 calls by unfold prV; rw [unE_map]]))
theorem pc02_0_fn {P : Value} (hP : okP P = true) {calls : Int} (c0 : 0 ≤ calls) (c1 : calls ≤ 1000) {L : List Pl} (hk : L.map Pl.key = [⟨#[98, 105, 103]⟩, ⟨#[109, 105, 100]⟩]) (ho : ∀ p ∈ L, okPl p) (hV : okV (L.map plV) = true) :
    FnOK 0 Tryz.prog 7 ⟨[.agg ⟨[P, fz ⟨L.map plV⟩]⟩, .string ⟨#[98, 105, 103]⟩, .int .i64 calls]⟩ h0 (fun v _ => v = .tuple ⟨[.int .i64 (pcL calls ⟨#[98, 105, 103]⟩ L), .int .i64 0]⟩) := by
  obtain ⟨p0, L0, rfl, e0, h0⟩ := m1 hk
  obtain ⟨p2, L2, rfl, e2, h2⟩ := m1 h0
  have := m0 h2
  subst this
  have o0 := ho p0 (by simp)
  have o2 := ho p2 (by simp)
  obtain ⟨k0, pr0, ba0, fr0, ts0, li0, tr0, as0⟩ := p0
  simp only at e0
  subst e0
  obtain ⟨k2, pr2, ba2, fr2, ts2, li2, tr2, as2⟩ := p2
  simp only at e2
  subst e2
  rw [pcL_here (by rfl)]
  exact FnOK.ftree SC2_ok mixed Tryz.func7 somePC (pc02_0 P calls pr0 ba0 fr0 li0 tr0 (ts0.map tierE) as0 pr2 ba2 fr2 li2 tr2 (ts2.map tierE) as2 (fun v => v = .tuple ⟨[.int .i64 (price ts0 fr0 calls), .int .i64 0]⟩)) (fin_pc o0 c0 c1 hP hV (by rw [show prV (ts0.map tierE) fr0 calls = price ts0 fr0 calls by unfold prV; rw [unE_map]]))
theorem pc02_2_fn {P : Value} (hP : okP P = true) {calls : Int} (c0 : 0 ≤ calls) (c1 : calls ≤ 1000) {L : List Pl} (hk : L.map Pl.key = [⟨#[98, 105, 103]⟩, ⟨#[109, 105, 100]⟩]) (ho : ∀ p ∈ L, okPl p) (hV : okV (L.map plV) = true) :
    FnOK 0 Tryz.prog 7 ⟨[.agg ⟨[P, fz ⟨L.map plV⟩]⟩, .string ⟨#[109, 105, 100]⟩, .int .i64 calls]⟩ h0 (fun v _ => v = .tuple ⟨[.int .i64 (pcL calls ⟨#[109, 105, 100]⟩ L), .int .i64 0]⟩) := by
  obtain ⟨p0, L0, rfl, e0, h0⟩ := m1 hk
  obtain ⟨p2, L2, rfl, e2, h2⟩ := m1 h0
  have := m0 h2
  subst this
  have o0 := ho p0 (by simp)
  have o2 := ho p2 (by simp)
  obtain ⟨k0, pr0, ba0, fr0, ts0, li0, tr0, as0⟩ := p0
  simp only at e0
  subst e0
  obtain ⟨k2, pr2, ba2, fr2, ts2, li2, tr2, as2⟩ := p2
  simp only at e2
  subst e2
  rw [pcL_next (by rfl), pcL_here (by rfl)]
  exact FnOK.ftree SC2_ok mixed Tryz.func7 somePC (pc02_2 P calls pr0 ba0 fr0 li0 tr0 (ts0.map tierE) as0 pr2 ba2 fr2 li2 tr2 (ts2.map tierE) as2 (fun v => v = .tuple ⟨[.int .i64 (price ts2 fr2 calls), .int .i64 0]⟩)) (fin_pc o2 c0 c1 hP hV (by rw [show prV (ts2.map tierE) fr2 calls = price ts2 fr2 calls by unfold prV; rw [unE_map]]))
theorem pc03_0_fn {P : Value} (hP : okP P = true) {calls : Int} (c0 : 0 ≤ calls) (c1 : calls ≤ 1000) {L : List Pl} (hk : L.map Pl.key = [⟨#[98, 105, 103]⟩, ⟨#[115, 109, 97, 108, 108]⟩]) (ho : ∀ p ∈ L, okPl p) (hV : okV (L.map plV) = true) :
    FnOK 0 Tryz.prog 7 ⟨[.agg ⟨[P, fz ⟨L.map plV⟩]⟩, .string ⟨#[98, 105, 103]⟩, .int .i64 calls]⟩ h0 (fun v _ => v = .tuple ⟨[.int .i64 (pcL calls ⟨#[98, 105, 103]⟩ L), .int .i64 0]⟩) := by
  obtain ⟨p0, L0, rfl, e0, h0⟩ := m1 hk
  obtain ⟨p3, L3, rfl, e3, h3⟩ := m1 h0
  have := m0 h3
  subst this
  have o0 := ho p0 (by simp)
  have o3 := ho p3 (by simp)
  obtain ⟨k0, pr0, ba0, fr0, ts0, li0, tr0, as0⟩ := p0
  simp only at e0
  subst e0
  obtain ⟨k3, pr3, ba3, fr3, ts3, li3, tr3, as3⟩ := p3
  simp only at e3
  subst e3
  rw [pcL_here (by rfl)]
  exact FnOK.ftree SC2_ok mixed Tryz.func7 somePC (pc03_0 P calls pr0 ba0 fr0 li0 tr0 (ts0.map tierE) as0 pr3 ba3 fr3 li3 tr3 (ts3.map tierE) as3 (fun v => v = .tuple ⟨[.int .i64 (price ts0 fr0 calls), .int .i64 0]⟩)) (fin_pc o0 c0 c1 hP hV (by rw [show prV (ts0.map tierE) fr0 calls = price ts0 fr0 calls by unfold prV; rw [unE_map]]))
theorem pc03_3_fn {P : Value} (hP : okP P = true) {calls : Int} (c0 : 0 ≤ calls) (c1 : calls ≤ 1000) {L : List Pl} (hk : L.map Pl.key = [⟨#[98, 105, 103]⟩, ⟨#[115, 109, 97, 108, 108]⟩]) (ho : ∀ p ∈ L, okPl p) (hV : okV (L.map plV) = true) :
    FnOK 0 Tryz.prog 7 ⟨[.agg ⟨[P, fz ⟨L.map plV⟩]⟩, .string ⟨#[115, 109, 97, 108, 108]⟩, .int .i64 calls]⟩ h0 (fun v _ => v = .tuple ⟨[.int .i64 (pcL calls ⟨#[115, 109, 97, 108, 108]⟩ L), .int .i64 0]⟩) := by
  obtain ⟨p0, L0, rfl, e0, h0⟩ := m1 hk
  obtain ⟨p3, L3, rfl, e3, h3⟩ := m1 h0
  have := m0 h3
  subst this
  have o0 := ho p0 (by simp)
  have o3 := ho p3 (by simp)
  obtain ⟨k0, pr0, ba0, fr0, ts0, li0, tr0, as0⟩ := p0
  simp only at e0
  subst e0
  obtain ⟨k3, pr3, ba3, fr3, ts3, li3, tr3, as3⟩ := p3
  simp only at e3
  subst e3
  rw [pcL_next (by rfl), pcL_here (by rfl)]
  exact FnOK.ftree SC2_ok mixed Tryz.func7 somePC (pc03_3 P calls pr0 ba0 fr0 li0 tr0 (ts0.map tierE) as0 pr3 ba3 fr3 li3 tr3 (ts3.map tierE) as3 (fun v => v = .tuple ⟨[.int .i64 (price ts3 fr3 calls), .int .i64 0]⟩)) (fin_pc o3 c0 c1 hP hV (by rw [show prV (ts3.map tierE) fr3 calls = price ts3 fr3 calls by unfold prV; rw [unE_map]]))
theorem pc12_1_fn {P : Value} (hP : okP P = true) {calls : Int} (c0 : 0 ≤ calls) (c1 : calls ≤ 1000) {L : List Pl} (hk : L.map Pl.key = [⟨#[102, 114, 101, 101]⟩, ⟨#[109, 105, 100]⟩]) (ho : ∀ p ∈ L, okPl p) (hV : okV (L.map plV) = true) :
    FnOK 0 Tryz.prog 7 ⟨[.agg ⟨[P, fz ⟨L.map plV⟩]⟩, .string ⟨#[102, 114, 101, 101]⟩, .int .i64 calls]⟩ h0 (fun v _ => v = .tuple ⟨[.int .i64 (pcL calls ⟨#[102, 114, 101, 101]⟩ L), .int .i64 0]⟩) := by
  obtain ⟨p1, L1, rfl, e1, h1⟩ := m1 hk
  obtain ⟨p2, L2, rfl, e2, h2⟩ := m1 h1
  have := m0 h2
  subst this
  have o1 := ho p1 (by simp)
  have o2 := ho p2 (by simp)
  obtain ⟨k1, pr1, ba1, fr1, ts1, li1, tr1, as1⟩ := p1
  simp only at e1
  subst e1
  obtain ⟨k2, pr2, ba2, fr2, ts2, li2, tr2, as2⟩ := p2
  simp only at e2
  subst e2
  rw [pcL_here (by rfl)]
  exact FnOK.ftree SC2_ok mixed Tryz.func7 somePC (pc12_1 P calls pr1 ba1 fr1 li1 tr1 (ts1.map tierE) as1 pr2 ba2 fr2 li2 tr2 (ts2.map tierE) as2 (fun v => v = .tuple ⟨[.int .i64 (price ts1 fr1 calls), .int .i64 0]⟩)) (fin_pc o1 c0 c1 hP hV (by rw [show prV (ts1.map tierE) fr1 calls = price ts1 fr1 calls by unfold prV; rw [unE_map]]))
theorem pc12_2_fn {P : Value} (hP : okP P = true) {calls : Int} (c0 : 0 ≤ calls) (c1 : calls ≤ 1000) {L : List Pl} (hk : L.map Pl.key = [⟨#[102, 114, 101, 101]⟩, ⟨#[109, 105, 100]⟩]) (ho : ∀ p ∈ L, okPl p) (hV : okV (L.map plV) = true) :
    FnOK 0 Tryz.prog 7 ⟨[.agg ⟨[P, fz ⟨L.map plV⟩]⟩, .string ⟨#[109, 105, 100]⟩, .int .i64 calls]⟩ h0 (fun v _ => v = .tuple ⟨[.int .i64 (pcL calls ⟨#[109, 105, 100]⟩ L), .int .i64 0]⟩) := by
  obtain ⟨p1, L1, rfl, e1, h1⟩ := m1 hk
  obtain ⟨p2, L2, rfl, e2, h2⟩ := m1 h1
  have := m0 h2
  subst this
  have o1 := ho p1 (by simp)
  have o2 := ho p2 (by simp)
  obtain ⟨k1, pr1, ba1, fr1, ts1, li1, tr1, as1⟩ := p1
  simp only at e1
  subst e1
  obtain ⟨k2, pr2, ba2, fr2, ts2, li2, tr2, as2⟩ := p2
  simp only at e2
  subst e2
  rw [pcL_next (by rfl), pcL_here (by rfl)]
  exact FnOK.ftree SC2_ok mixed Tryz.func7 somePC (pc12_2 P calls pr1 ba1 fr1 li1 tr1 (ts1.map tierE) as1 pr2 ba2 fr2 li2 tr2 (ts2.map tierE) as2 (fun v => v = .tuple ⟨[.int .i64 (price ts2 fr2 calls), .int .i64 0]⟩)) (fin_pc o2 c0 c1 hP hV (by rw [show prV (ts2.map tierE) fr2 calls = price ts2 fr2 calls by unfold prV; rw [unE_map]]))
theorem pc13_1_fn {P : Value} (hP : okP P = true) {calls : Int} (c0 : 0 ≤ calls) (c1 : calls ≤ 1000) {L : List Pl} (hk : L.map Pl.key = [⟨#[102, 114, 101, 101]⟩, ⟨#[115, 109, 97, 108, 108]⟩]) (ho : ∀ p ∈ L, okPl p) (hV : okV (L.map plV) = true) :
    FnOK 0 Tryz.prog 7 ⟨[.agg ⟨[P, fz ⟨L.map plV⟩]⟩, .string ⟨#[102, 114, 101, 101]⟩, .int .i64 calls]⟩ h0 (fun v _ => v = .tuple ⟨[.int .i64 (pcL calls ⟨#[102, 114, 101, 101]⟩ L), .int .i64 0]⟩) := by
  obtain ⟨p1, L1, rfl, e1, h1⟩ := m1 hk
  obtain ⟨p3, L3, rfl, e3, h3⟩ := m1 h1
  have := m0 h3
  subst this
  have o1 := ho p1 (by simp)
  have o3 := ho p3 (by simp)
  obtain ⟨k1, pr1, ba1, fr1, ts1, li1, tr1, as1⟩ := p1
  simp only at e1
  subst e1
  obtain ⟨k3, pr3, ba3, fr3, ts3, li3, tr3, as3⟩ := p3
  simp only at e3
  subst e3
  rw [pcL_here (by rfl)]
  exact FnOK.ftree SC2_ok mixed Tryz.func7 somePC (pc13_1 P calls pr1 ba1 fr1 li1 tr1 (ts1.map tierE) as1 pr3 ba3 fr3 li3 tr3 (ts3.map tierE) as3 (fun v => v = .tuple ⟨[.int .i64 (price ts1 fr1 calls), .int .i64 0]⟩)) (fin_pc o1 c0 c1 hP hV (by rw [show prV (ts1.map tierE) fr1 calls = price ts1 fr1 calls by unfold prV; rw [unE_map]]))
theorem pc13_3_fn {P : Value} (hP : okP P = true) {calls : Int} (c0 : 0 ≤ calls) (c1 : calls ≤ 1000) {L : List Pl} (hk : L.map Pl.key = [⟨#[102, 114, 101, 101]⟩, ⟨#[115, 109, 97, 108, 108]⟩]) (ho : ∀ p ∈ L, okPl p) (hV : okV (L.map plV) = true) :
    FnOK 0 Tryz.prog 7 ⟨[.agg ⟨[P, fz ⟨L.map plV⟩]⟩, .string ⟨#[115, 109, 97, 108, 108]⟩, .int .i64 calls]⟩ h0 (fun v _ => v = .tuple ⟨[.int .i64 (pcL calls ⟨#[115, 109, 97, 108, 108]⟩ L), .int .i64 0]⟩) := by
  obtain ⟨p1, L1, rfl, e1, h1⟩ := m1 hk
  obtain ⟨p3, L3, rfl, e3, h3⟩ := m1 h1
  have := m0 h3
  subst this
  have o1 := ho p1 (by simp)
  have o3 := ho p3 (by simp)
  obtain ⟨k1, pr1, ba1, fr1, ts1, li1, tr1, as1⟩ := p1
  simp only at e1
  subst e1
  obtain ⟨k3, pr3, ba3, fr3, ts3, li3, tr3, as3⟩ := p3
  simp only at e3
  subst e3
  rw [pcL_next (by rfl), pcL_here (by rfl)]
  exact FnOK.ftree SC2_ok mixed Tryz.func7 somePC (pc13_3 P calls pr1 ba1 fr1 li1 tr1 (ts1.map tierE) as1 pr3 ba3 fr3 li3 tr3 (ts3.map tierE) as3 (fun v => v = .tuple ⟨[.int .i64 (price ts3 fr3 calls), .int .i64 0]⟩)) (fin_pc o3 c0 c1 hP hV (by rw [show prV (ts3.map tierE) fr3 calls = price ts3 fr3 calls by unfold prV; rw [unE_map]]))
theorem pc23_2_fn {P : Value} (hP : okP P = true) {calls : Int} (c0 : 0 ≤ calls) (c1 : calls ≤ 1000) {L : List Pl} (hk : L.map Pl.key = [⟨#[109, 105, 100]⟩, ⟨#[115, 109, 97, 108, 108]⟩]) (ho : ∀ p ∈ L, okPl p) (hV : okV (L.map plV) = true) :
    FnOK 0 Tryz.prog 7 ⟨[.agg ⟨[P, fz ⟨L.map plV⟩]⟩, .string ⟨#[109, 105, 100]⟩, .int .i64 calls]⟩ h0 (fun v _ => v = .tuple ⟨[.int .i64 (pcL calls ⟨#[109, 105, 100]⟩ L), .int .i64 0]⟩) := by
  obtain ⟨p2, L2, rfl, e2, h2⟩ := m1 hk
  obtain ⟨p3, L3, rfl, e3, h3⟩ := m1 h2
  have := m0 h3
  subst this
  have o2 := ho p2 (by simp)
  have o3 := ho p3 (by simp)
  obtain ⟨k2, pr2, ba2, fr2, ts2, li2, tr2, as2⟩ := p2
  simp only at e2
  subst e2
  obtain ⟨k3, pr3, ba3, fr3, ts3, li3, tr3, as3⟩ := p3
  simp only at e3
  subst e3
  rw [pcL_here (by rfl)]
  exact FnOK.ftree SC2_ok mixed Tryz.func7 somePC (pc23_2 P calls pr2 ba2 fr2 li2 tr2 (ts2.map tierE) as2 pr3 ba3 fr3 li3 tr3 (ts3.map tierE) as3 (fun v => v = .tuple ⟨[.int .i64 (price ts2 fr2 calls), .int .i64 0]⟩)) (fin_pc o2 c0 c1 hP hV (by rw [show prV (ts2.map tierE) fr2 calls = price ts2 fr2 calls by unfold prV; rw [unE_map]]))
theorem pc23_3_fn {P : Value} (hP : okP P = true) {calls : Int} (c0 : 0 ≤ calls) (c1 : calls ≤ 1000) {L : List Pl} (hk : L.map Pl.key = [⟨#[109, 105, 100]⟩, ⟨#[115, 109, 97, 108, 108]⟩]) (ho : ∀ p ∈ L, okPl p) (hV : okV (L.map plV) = true) :
    FnOK 0 Tryz.prog 7 ⟨[.agg ⟨[P, fz ⟨L.map plV⟩]⟩, .string ⟨#[115, 109, 97, 108, 108]⟩, .int .i64 calls]⟩ h0 (fun v _ => v = .tuple ⟨[.int .i64 (pcL calls ⟨#[115, 109, 97, 108, 108]⟩ L), .int .i64 0]⟩) := by
  obtain ⟨p2, L2, rfl, e2, h2⟩ := m1 hk
  obtain ⟨p3, L3, rfl, e3, h3⟩ := m1 h2
  have := m0 h3
  subst this
  have o2 := ho p2 (by simp)
  have o3 := ho p3 (by simp)
  obtain ⟨k2, pr2, ba2, fr2, ts2, li2, tr2, as2⟩ := p2
  simp only at e2
  subst e2
  obtain ⟨k3, pr3, ba3, fr3, ts3, li3, tr3, as3⟩ := p3
  simp only at e3
  subst e3
  rw [pcL_next (by rfl), pcL_here (by rfl)]
  exact FnOK.ftree SC2_ok mixed Tryz.func7 somePC (pc23_3 P calls pr2 ba2 fr2 li2 tr2 (ts2.map tierE) as2 pr3 ba3 fr3 li3 tr3 (ts3.map tierE) as3 (fun v => v = .tuple ⟨[.int .i64 (price ts3 fr3 calls), .int .i64 0]⟩)) (fin_pc o3 c0 c1 hP hV (by rw [show prV (ts3.map tierE) fr3 calls = price ts3 fr3 calls by unfold prV; rw [unE_map]]))
theorem pc012_0_fn {P : Value} (hP : okP P = true) {calls : Int} (c0 : 0 ≤ calls) (c1 : calls ≤ 1000) {L : List Pl} (hk : L.map Pl.key = [⟨#[98, 105, 103]⟩, ⟨#[102, 114, 101, 101]⟩, ⟨#[109, 105, 100]⟩]) (ho : ∀ p ∈ L, okPl p) (hV : okV (L.map plV) = true) :
    FnOK 0 Tryz.prog 7 ⟨[.agg ⟨[P, fz ⟨L.map plV⟩]⟩, .string ⟨#[98, 105, 103]⟩, .int .i64 calls]⟩ h0 (fun v _ => v = .tuple ⟨[.int .i64 (pcL calls ⟨#[98, 105, 103]⟩ L), .int .i64 0]⟩) := by
  obtain ⟨p0, L0, rfl, e0, h0⟩ := m1 hk
  obtain ⟨p1, L1, rfl, e1, h1⟩ := m1 h0
  obtain ⟨p2, L2, rfl, e2, h2⟩ := m1 h1
  have := m0 h2
  subst this
  have o0 := ho p0 (by simp)
  have o1 := ho p1 (by simp)
  have o2 := ho p2 (by simp)
  obtain ⟨k0, pr0, ba0, fr0, ts0, li0, tr0, as0⟩ := p0
  simp only at e0
  subst e0
  obtain ⟨k1, pr1, ba1, fr1, ts1, li1, tr1, as1⟩ := p1
  simp only at e1
  subst e1
  obtain ⟨k2, pr2, ba2, fr2, ts2, li2, tr2, as2⟩ := p2
  simp only at e2
  subst e2
  rw [pcL_here (by rfl)]
  exact FnOK.ftree SC2_ok mixed Tryz.func7 somePC (pc012_0 P calls pr0 ba0 fr0 li0 tr0 (ts0.map tierE) as0 pr1 ba1 fr1 li1 tr1 (ts1.map tierE) as1 pr2 ba2 fr2 li2 tr2 (ts2.map tierE) as2 (fun v => v = .tuple ⟨[.int .i64 (price ts0 fr0 calls), .int .i64 0]⟩)) (fin_pc o0 c0 c1 hP hV (by rw [show prV (ts0.map tierE) fr0 calls = price ts0 fr0 calls by unfold prV; rw [unE_map]]))
theorem pc012_1_fn {P : Value} (hP : okP P = true) {calls : Int} (c0 : 0 ≤ calls) (c1 : calls ≤ 1000) {L : List Pl} (hk : L.map Pl.key = [⟨#[98, 105, 103]⟩, ⟨#[102, 114, 101, 101]⟩, ⟨#[109, 105, 100]⟩]) (ho : ∀ p ∈ L, okPl p) (hV : okV (L.map plV) = true) :
    FnOK 0 Tryz.prog 7 ⟨[.agg ⟨[P, fz ⟨L.map plV⟩]⟩, .string ⟨#[102, 114, 101, 101]⟩, .int .i64 calls]⟩ h0 (fun v _ => v = .tuple ⟨[.int .i64 (pcL calls ⟨#[102, 114, 101, 101]⟩ L), .int .i64 0]⟩) := by
  obtain ⟨p0, L0, rfl, e0, h0⟩ := m1 hk
  obtain ⟨p1, L1, rfl, e1, h1⟩ := m1 h0
  obtain ⟨p2, L2, rfl, e2, h2⟩ := m1 h1
  have := m0 h2
  subst this
  have o0 := ho p0 (by simp)
  have o1 := ho p1 (by simp)
  have o2 := ho p2 (by simp)
  obtain ⟨k0, pr0, ba0, fr0, ts0, li0, tr0, as0⟩ := p0
  simp only at e0
  subst e0
  obtain ⟨k1, pr1, ba1, fr1, ts1, li1, tr1, as1⟩ := p1
  simp only at e1
  subst e1
  obtain ⟨k2, pr2, ba2, fr2, ts2, li2, tr2, as2⟩ := p2
  simp only at e2
  subst e2
  rw [pcL_next (by rfl), pcL_here (by rfl)]
  exact FnOK.ftree SC2_ok mixed Tryz.func7 somePC (pc012_1 P calls pr0 ba0 fr0 li0 tr0 (ts0.map tierE) as0 pr1 ba1 fr1 li1 tr1 (ts1.map tierE) as1 pr2 ba2 fr2 li2 tr2 (ts2.map tierE) as2 (fun v => v = .tuple ⟨[.int .i64 (price ts1 fr1 calls), .int .i64 0]⟩)) (fin_pc o1 c0 c1 hP hV (by rw [show prV (ts1.map tierE) fr1 calls = price ts1 fr1 calls by unfold prV; rw [unE_map]]))
theorem pc012_2_fn {P : Value} (hP : okP P = true) {calls : Int} (c0 : 0 ≤ calls) (c1 : calls ≤ 1000) {L : List Pl} (hk : L.map Pl.key = [⟨#[98, 105, 103]⟩, ⟨#[102, 114, 101, 101]⟩, ⟨#[109, 105, 100]⟩]) (ho : ∀ p ∈ L, okPl p) (hV : okV (L.map plV) = true) :
    FnOK 0 Tryz.prog 7 ⟨[.agg ⟨[P, fz ⟨L.map plV⟩]⟩, .string ⟨#[109, 105, 100]⟩, .int .i64 calls]⟩ h0 (fun v _ => v = .tuple ⟨[.int .i64 (pcL calls ⟨#[109, 105, 100]⟩ L), .int .i64 0]⟩) := by
  obtain ⟨p0, L0, rfl, e0, h0⟩ := m1 hk
  obtain ⟨p1, L1, rfl, e1, h1⟩ := m1 h0
  obtain ⟨p2, L2, rfl, e2, h2⟩ := m1 h1
  have := m0 h2
  subst this
  have o0 := ho p0 (by simp)
  have o1 := ho p1 (by simp)
  have o2 := ho p2 (by simp)
  obtain ⟨k0, pr0, ba0, fr0, ts0, li0, tr0, as0⟩ := p0
  simp only at e0
  subst e0
  obtain ⟨k1, pr1, ba1, fr1, ts1, li1, tr1, as1⟩ := p1
  simp only at e1
  subst e1
  obtain ⟨k2, pr2, ba2, fr2, ts2, li2, tr2, as2⟩ := p2
  simp only at e2
  subst e2
  rw [pcL_next (by rfl), pcL_next (by rfl), pcL_here (by rfl)]
  exact FnOK.ftree SC2_ok mixed Tryz.func7 somePC (pc012_2 P calls pr0 ba0 fr0 li0 tr0 (ts0.map tierE) as0 pr1 ba1 fr1 li1 tr1 (ts1.map tierE) as1 pr2 ba2 fr2 li2 tr2 (ts2.map tierE) as2 (fun v => v = .tuple ⟨[.int .i64 (price ts2 fr2 calls), .int .i64 0]⟩)) (fin_pc o2 c0 c1 hP hV (by rw [show prV (ts2.map tierE) fr2 calls = price ts2 fr2 calls by unfold prV; rw [unE_map]]))
theorem pc013_0_fn {P : Value} (hP : okP P = true) {calls : Int} (c0 : 0 ≤ calls) (c1 : calls ≤ 1000) {L : List Pl} (hk : L.map Pl.key = [⟨#[98, 105, 103]⟩, ⟨#[102, 114, 101, 101]⟩, ⟨#[115, 109, 97, 108, 108]⟩]) (ho : ∀ p ∈ L, okPl p) (hV : okV (L.map plV) = true) :
    FnOK 0 Tryz.prog 7 ⟨[.agg ⟨[P, fz ⟨L.map plV⟩]⟩, .string ⟨#[98, 105, 103]⟩, .int .i64 calls]⟩ h0 (fun v _ => v = .tuple ⟨[.int .i64 (pcL calls ⟨#[98, 105, 103]⟩ L), .int .i64 0]⟩) := by
  obtain ⟨p0, L0, rfl, e0, h0⟩ := m1 hk
  obtain ⟨p1, L1, rfl, e1, h1⟩ := m1 h0
  obtain ⟨p3, L3, rfl, e3, h3⟩ := m1 h1
  have := m0 h3
  subst this
  have o0 := ho p0 (by simp)
  have o1 := ho p1 (by simp)
  have o3 := ho p3 (by simp)
  obtain ⟨k0, pr0, ba0, fr0, ts0, li0, tr0, as0⟩ := p0
  simp only at e0
  subst e0
  obtain ⟨k1, pr1, ba1, fr1, ts1, li1, tr1, as1⟩ := p1
  simp only at e1
  subst e1
  obtain ⟨k3, pr3, ba3, fr3, ts3, li3, tr3, as3⟩ := p3
  simp only at e3
  subst e3
  rw [pcL_here (by rfl)]
  exact FnOK.ftree SC2_ok mixed Tryz.func7 somePC (pc013_0 P calls pr0 ba0 fr0 li0 tr0 (ts0.map tierE) as0 pr1 ba1 fr1 li1 tr1 (ts1.map tierE) as1 pr3 ba3 fr3 li3 tr3 (ts3.map tierE) as3 (fun v => v = .tuple ⟨[.int .i64 (price ts0 fr0 calls), .int .i64 0]⟩)) (fin_pc o0 c0 c1 hP hV (by rw [show prV (ts0.map tierE) fr0 calls = price ts0 fr0 calls by unfold prV; rw [unE_map]]))
theorem pc013_1_fn {P : Value} (hP : okP P = true) {calls : Int} (c0 : 0 ≤ calls) (c1 : calls ≤ 1000) {L : List Pl} (hk : L.map Pl.key = [⟨#[98, 105, 103]⟩, ⟨#[102, 114, 101, 101]⟩, ⟨#[115, 109, 97, 108, 108]⟩]) (ho : ∀ p ∈ L, okPl p) (hV : okV (L.map plV) = true) :
    FnOK 0 Tryz.prog 7 ⟨[.agg ⟨[P, fz ⟨L.map plV⟩]⟩, .string ⟨#[102, 114, 101, 101]⟩, .int .i64 calls]⟩ h0 (fun v _ => v = .tuple ⟨[.int .i64 (pcL calls ⟨#[102, 114, 101, 101]⟩ L), .int .i64 0]⟩) := by
  obtain ⟨p0, L0, rfl, e0, h0⟩ := m1 hk
  obtain ⟨p1, L1, rfl, e1, h1⟩ := m1 h0
  obtain ⟨p3, L3, rfl, e3, h3⟩ := m1 h1
  have := m0 h3
  subst this
  have o0 := ho p0 (by simp)
  have o1 := ho p1 (by simp)
  have o3 := ho p3 (by simp)
  obtain ⟨k0, pr0, ba0, fr0, ts0, li0, tr0, as0⟩ := p0
  simp only at e0
  subst e0
  obtain ⟨k1, pr1, ba1, fr1, ts1, li1, tr1, as1⟩ := p1
  simp only at e1
  subst e1
  obtain ⟨k3, pr3, ba3, fr3, ts3, li3, tr3, as3⟩ := p3
  simp only at e3
  subst e3
  rw [pcL_next (by rfl), pcL_here (by rfl)]
  exact FnOK.ftree SC2_ok mixed Tryz.func7 somePC (pc013_1 P calls pr0 ba0 fr0 li0 tr0 (ts0.map tierE) as0 pr1 ba1 fr1 li1 tr1 (ts1.map tierE) as1 pr3 ba3 fr3 li3 tr3 (ts3.map tierE) as3 (fun v => v = .tuple ⟨[.int .i64 (price ts1 fr1 calls), .int .i64 0]⟩)) (fin_pc o1 c0 c1 hP hV (by rw [show prV (ts1.map tierE) fr1 calls = price ts1 fr1 calls by unfold prV; rw [unE_map]]))
theorem pc013_3_fn {P : Value} (hP : okP P = true) {calls : Int} (c0 : 0 ≤ calls) (c1 : calls ≤ 1000) {L : List Pl} (hk : L.map Pl.key = [⟨#[98, 105, 103]⟩, ⟨#[102, 114, 101, 101]⟩, ⟨#[115, 109, 97, 108, 108]⟩]) (ho : ∀ p ∈ L, okPl p) (hV : okV (L.map plV) = true) :
    FnOK 0 Tryz.prog 7 ⟨[.agg ⟨[P, fz ⟨L.map plV⟩]⟩, .string ⟨#[115, 109, 97, 108, 108]⟩, .int .i64 calls]⟩ h0 (fun v _ => v = .tuple ⟨[.int .i64 (pcL calls ⟨#[115, 109, 97, 108, 108]⟩ L), .int .i64 0]⟩) := by
  obtain ⟨p0, L0, rfl, e0, h0⟩ := m1 hk
  obtain ⟨p1, L1, rfl, e1, h1⟩ := m1 h0
  obtain ⟨p3, L3, rfl, e3, h3⟩ := m1 h1
  have := m0 h3
  subst this
  have o0 := ho p0 (by simp)
  have o1 := ho p1 (by simp)
  have o3 := ho p3 (by simp)
  obtain ⟨k0, pr0, ba0, fr0, ts0, li0, tr0, as0⟩ := p0
  simp only at e0
  subst e0
  obtain ⟨k1, pr1, ba1, fr1, ts1, li1, tr1, as1⟩ := p1
  simp only at e1
  subst e1
  obtain ⟨k3, pr3, ba3, fr3, ts3, li3, tr3, as3⟩ := p3
  simp only at e3
  subst e3
  rw [pcL_next (by rfl), pcL_next (by rfl), pcL_here (by rfl)]
  exact FnOK.ftree SC2_ok mixed Tryz.func7 somePC (pc013_3 P calls pr0 ba0 fr0 li0 tr0 (ts0.map tierE) as0 pr1 ba1 fr1 li1 tr1 (ts1.map tierE) as1 pr3 ba3 fr3 li3 tr3 (ts3.map tierE) as3 (fun v => v = .tuple ⟨[.int .i64 (price ts3 fr3 calls), .int .i64 0]⟩)) (fin_pc o3 c0 c1 hP hV (by rw [show prV (ts3.map tierE) fr3 calls = price ts3 fr3 calls by unfold prV; rw [unE_map]]))
theorem pc023_0_fn {P : Value} (hP : okP P = true) {calls : Int} (c0 : 0 ≤ calls) (c1 : calls ≤ 1000) {L : List Pl} (hk : L.map Pl.key = [⟨#[98, 105, 103]⟩, ⟨#[109, 105, 100]⟩, ⟨#[115, 109, 97, 108, 108]⟩]) (ho : ∀ p ∈ L, okPl p) (hV : okV (L.map plV) = true) :
    FnOK 0 Tryz.prog 7 ⟨[.agg ⟨[P, fz ⟨L.map plV⟩]⟩, .string ⟨#[98, 105, 103]⟩, .int .i64 calls]⟩ h0 (fun v _ => v = .tuple ⟨[.int .i64 (pcL calls ⟨#[98, 105, 103]⟩ L), .int .i64 0]⟩) := by
  obtain ⟨p0, L0, rfl, e0, h0⟩ := m1 hk
  obtain ⟨p2, L2, rfl, e2, h2⟩ := m1 h0
  obtain ⟨p3, L3, rfl, e3, h3⟩ := m1 h2
  have := m0 h3
  subst this
  have o0 := ho p0 (by simp)
  have o2 := ho p2 (by simp)
  have o3 := ho p3 (by simp)
  obtain ⟨k0, pr0, ba0, fr0, ts0, li0, tr0, as0⟩ := p0
  simp only at e0
  subst e0
  obtain ⟨k2, pr2, ba2, fr2, ts2, li2, tr2, as2⟩ := p2
  simp only at e2
  subst e2
  obtain ⟨k3, pr3, ba3, fr3, ts3, li3, tr3, as3⟩ := p3
  simp only at e3
  subst e3
  rw [pcL_here (by rfl)]
  exact FnOK.ftree SC2_ok mixed Tryz.func7 somePC (pc023_0 P calls pr0 ba0 fr0 li0 tr0 (ts0.map tierE) as0 pr2 ba2 fr2 li2 tr2 (ts2.map tierE) as2 pr3 ba3 fr3 li3 tr3 (ts3.map tierE) as3 (fun v => v = .tuple ⟨[.int .i64 (price ts0 fr0 calls), .int .i64 0]⟩)) (fin_pc o0 c0 c1 hP hV (by rw [show prV (ts0.map tierE) fr0 calls = price ts0 fr0 calls by unfold prV; rw [unE_map]]))
theorem pc023_2_fn {P : Value} (hP : okP P = true) {calls : Int} (c0 : 0 ≤ calls) (c1 : calls ≤ 1000) {L : List Pl} (hk : L.map Pl.key = [⟨#[98, 105, 103]⟩, ⟨#[109, 105, 100]⟩, ⟨#[115, 109, 97, 108, 108]⟩]) (ho : ∀ p ∈ L, okPl p) (hV : okV (L.map plV) = true) :
    FnOK 0 Tryz.prog 7 ⟨[.agg ⟨[P, fz ⟨L.map plV⟩]⟩, .string ⟨#[109, 105, 100]⟩, .int .i64 calls]⟩ h0 (fun v _ => v = .tuple ⟨[.int .i64 (pcL calls ⟨#[109, 105, 100]⟩ L), .int .i64 0]⟩) := by
  obtain ⟨p0, L0, rfl, e0, h0⟩ := m1 hk
  obtain ⟨p2, L2, rfl, e2, h2⟩ := m1 h0
  obtain ⟨p3, L3, rfl, e3, h3⟩ := m1 h2
  have := m0 h3
  subst this
  have o0 := ho p0 (by simp)
  have o2 := ho p2 (by simp)
  have o3 := ho p3 (by simp)
  obtain ⟨k0, pr0, ba0, fr0, ts0, li0, tr0, as0⟩ := p0
  simp only at e0
  subst e0
  obtain ⟨k2, pr2, ba2, fr2, ts2, li2, tr2, as2⟩ := p2
  simp only at e2
  subst e2
  obtain ⟨k3, pr3, ba3, fr3, ts3, li3, tr3, as3⟩ := p3
  simp only at e3
  subst e3
  rw [pcL_next (by rfl), pcL_here (by rfl)]
  exact FnOK.ftree SC2_ok mixed Tryz.func7 somePC (pc023_2 P calls pr0 ba0 fr0 li0 tr0 (ts0.map tierE) as0 pr2 ba2 fr2 li2 tr2 (ts2.map tierE) as2 pr3 ba3 fr3 li3 tr3 (ts3.map tierE) as3 (fun v => v = .tuple ⟨[.int .i64 (price ts2 fr2 calls), .int .i64 0]⟩)) (fin_pc o2 c0 c1 hP hV (by rw [show prV (ts2.map tierE) fr2 calls = price ts2 fr2 calls by unfold prV; rw [unE_map]]))
theorem pc023_3_fn {P : Value} (hP : okP P = true) {calls : Int} (c0 : 0 ≤ calls) (c1 : calls ≤ 1000) {L : List Pl} (hk : L.map Pl.key = [⟨#[98, 105, 103]⟩, ⟨#[109, 105, 100]⟩, ⟨#[115, 109, 97, 108, 108]⟩]) (ho : ∀ p ∈ L, okPl p) (hV : okV (L.map plV) = true) :
    FnOK 0 Tryz.prog 7 ⟨[.agg ⟨[P, fz ⟨L.map plV⟩]⟩, .string ⟨#[115, 109, 97, 108, 108]⟩, .int .i64 calls]⟩ h0 (fun v _ => v = .tuple ⟨[.int .i64 (pcL calls ⟨#[115, 109, 97, 108, 108]⟩ L), .int .i64 0]⟩) := by
  obtain ⟨p0, L0, rfl, e0, h0⟩ := m1 hk
  obtain ⟨p2, L2, rfl, e2, h2⟩ := m1 h0
  obtain ⟨p3, L3, rfl, e3, h3⟩ := m1 h2
  have := m0 h3
  subst this
  have o0 := ho p0 (by simp)
  have o2 := ho p2 (by simp)
  have o3 := ho p3 (by simp)
  obtain ⟨k0, pr0, ba0, fr0, ts0, li0, tr0, as0⟩ := p0
  simp only at e0
  subst e0
  obtain ⟨k2, pr2, ba2, fr2, ts2, li2, tr2, as2⟩ := p2
  simp only at e2
  subst e2
  obtain ⟨k3, pr3, ba3, fr3, ts3, li3, tr3, as3⟩ := p3
  simp only at e3
  subst e3
  rw [pcL_next (by rfl), pcL_next (by rfl), pcL_here (by rfl)]
  exact FnOK.ftree SC2_ok mixed Tryz.func7 somePC (pc023_3 P calls pr0 ba0 fr0 li0 tr0 (ts0.map tierE) as0 pr2 ba2 fr2 li2 tr2 (ts2.map tierE) as2 pr3 ba3 fr3 li3 tr3 (ts3.map tierE) as3 (fun v => v = .tuple ⟨[.int .i64 (price ts3 fr3 calls), .int .i64 0]⟩)) (fin_pc o3 c0 c1 hP hV (by rw [show prV (ts3.map tierE) fr3 calls = price ts3 fr3 calls by unfold prV; rw [unE_map]]))
theorem pc123_1_fn {P : Value} (hP : okP P = true) {calls : Int} (c0 : 0 ≤ calls) (c1 : calls ≤ 1000) {L : List Pl} (hk : L.map Pl.key = [⟨#[102, 114, 101, 101]⟩, ⟨#[109, 105, 100]⟩, ⟨#[115, 109, 97, 108, 108]⟩]) (ho : ∀ p ∈ L, okPl p) (hV : okV (L.map plV) = true) :
    FnOK 0 Tryz.prog 7 ⟨[.agg ⟨[P, fz ⟨L.map plV⟩]⟩, .string ⟨#[102, 114, 101, 101]⟩, .int .i64 calls]⟩ h0 (fun v _ => v = .tuple ⟨[.int .i64 (pcL calls ⟨#[102, 114, 101, 101]⟩ L), .int .i64 0]⟩) := by
  obtain ⟨p1, L1, rfl, e1, h1⟩ := m1 hk
  obtain ⟨p2, L2, rfl, e2, h2⟩ := m1 h1
  obtain ⟨p3, L3, rfl, e3, h3⟩ := m1 h2
  have := m0 h3
  subst this
  have o1 := ho p1 (by simp)
  have o2 := ho p2 (by simp)
  have o3 := ho p3 (by simp)
  obtain ⟨k1, pr1, ba1, fr1, ts1, li1, tr1, as1⟩ := p1
  simp only at e1
  subst e1
  obtain ⟨k2, pr2, ba2, fr2, ts2, li2, tr2, as2⟩ := p2
  simp only at e2
  subst e2
  obtain ⟨k3, pr3, ba3, fr3, ts3, li3, tr3, as3⟩ := p3
  simp only at e3
  subst e3
  rw [pcL_here (by rfl)]
  exact FnOK.ftree SC2_ok mixed Tryz.func7 somePC (pc123_1 P calls pr1 ba1 fr1 li1 tr1 (ts1.map tierE) as1 pr2 ba2 fr2 li2 tr2 (ts2.map tierE) as2 pr3 ba3 fr3 li3 tr3 (ts3.map tierE) as3 (fun v => v = .tuple ⟨[.int .i64 (price ts1 fr1 calls), .int .i64 0]⟩)) (fin_pc o1 c0 c1 hP hV (by rw [show prV (ts1.map tierE) fr1 calls = price ts1 fr1 calls by unfold prV; rw [unE_map]]))
theorem pc123_2_fn {P : Value} (hP : okP P = true) {calls : Int} (c0 : 0 ≤ calls) (c1 : calls ≤ 1000) {L : List Pl} (hk : L.map Pl.key = [⟨#[102, 114, 101, 101]⟩, ⟨#[109, 105, 100]⟩, ⟨#[115, 109, 97, 108, 108]⟩]) (ho : ∀ p ∈ L, okPl p) (hV : okV (L.map plV) = true) :
    FnOK 0 Tryz.prog 7 ⟨[.agg ⟨[P, fz ⟨L.map plV⟩]⟩, .string ⟨#[109, 105, 100]⟩, .int .i64 calls]⟩ h0 (fun v _ => v = .tuple ⟨[.int .i64 (pcL calls ⟨#[109, 105, 100]⟩ L), .int .i64 0]⟩) := by
  obtain ⟨p1, L1, rfl, e1, h1⟩ := m1 hk
  obtain ⟨p2, L2, rfl, e2, h2⟩ := m1 h1
  obtain ⟨p3, L3, rfl, e3, h3⟩ := m1 h2
  have := m0 h3
  subst this
  have o1 := ho p1 (by simp)
  have o2 := ho p2 (by simp)
  have o3 := ho p3 (by simp)
  obtain ⟨k1, pr1, ba1, fr1, ts1, li1, tr1, as1⟩ := p1
  simp only at e1
  subst e1
  obtain ⟨k2, pr2, ba2, fr2, ts2, li2, tr2, as2⟩ := p2
  simp only at e2
  subst e2
  obtain ⟨k3, pr3, ba3, fr3, ts3, li3, tr3, as3⟩ := p3
  simp only at e3
  subst e3
  rw [pcL_next (by rfl), pcL_here (by rfl)]
  exact FnOK.ftree SC2_ok mixed Tryz.func7 somePC (pc123_2 P calls pr1 ba1 fr1 li1 tr1 (ts1.map tierE) as1 pr2 ba2 fr2 li2 tr2 (ts2.map tierE) as2 pr3 ba3 fr3 li3 tr3 (ts3.map tierE) as3 (fun v => v = .tuple ⟨[.int .i64 (price ts2 fr2 calls), .int .i64 0]⟩)) (fin_pc o2 c0 c1 hP hV (by rw [show prV (ts2.map tierE) fr2 calls = price ts2 fr2 calls by unfold prV; rw [unE_map]]))
theorem pc123_3_fn {P : Value} (hP : okP P = true) {calls : Int} (c0 : 0 ≤ calls) (c1 : calls ≤ 1000) {L : List Pl} (hk : L.map Pl.key = [⟨#[102, 114, 101, 101]⟩, ⟨#[109, 105, 100]⟩, ⟨#[115, 109, 97, 108, 108]⟩]) (ho : ∀ p ∈ L, okPl p) (hV : okV (L.map plV) = true) :
    FnOK 0 Tryz.prog 7 ⟨[.agg ⟨[P, fz ⟨L.map plV⟩]⟩, .string ⟨#[115, 109, 97, 108, 108]⟩, .int .i64 calls]⟩ h0 (fun v _ => v = .tuple ⟨[.int .i64 (pcL calls ⟨#[115, 109, 97, 108, 108]⟩ L), .int .i64 0]⟩) := by
  obtain ⟨p1, L1, rfl, e1, h1⟩ := m1 hk
  obtain ⟨p2, L2, rfl, e2, h2⟩ := m1 h1
  obtain ⟨p3, L3, rfl, e3, h3⟩ := m1 h2
  have := m0 h3
  subst this
  have o1 := ho p1 (by simp)
  have o2 := ho p2 (by simp)
  have o3 := ho p3 (by simp)
  obtain ⟨k1, pr1, ba1, fr1, ts1, li1, tr1, as1⟩ := p1
  simp only at e1
  subst e1
  obtain ⟨k2, pr2, ba2, fr2, ts2, li2, tr2, as2⟩ := p2
  simp only at e2
  subst e2
  obtain ⟨k3, pr3, ba3, fr3, ts3, li3, tr3, as3⟩ := p3
  simp only at e3
  subst e3
  rw [pcL_next (by rfl), pcL_next (by rfl), pcL_here (by rfl)]
  exact FnOK.ftree SC2_ok mixed Tryz.func7 somePC (pc123_3 P calls pr1 ba1 fr1 li1 tr1 (ts1.map tierE) as1 pr2 ba2 fr2 li2 tr2 (ts2.map tierE) as2 pr3 ba3 fr3 li3 tr3 (ts3.map tierE) as3 (fun v => v = .tuple ⟨[.int .i64 (price ts3 fr3 calls), .int .i64 0]⟩)) (fin_pc o3 c0 c1 hP hV (by rw [show prV (ts3.map tierE) fr3 calls = price ts3 fr3 calls by unfold prV; rw [unE_map]]))
theorem pc0123_0_fn {P : Value} (hP : okP P = true) {calls : Int} (c0 : 0 ≤ calls) (c1 : calls ≤ 1000) {L : List Pl} (hk : L.map Pl.key = [⟨#[98, 105, 103]⟩, ⟨#[102, 114, 101, 101]⟩, ⟨#[109, 105, 100]⟩, ⟨#[115, 109, 97, 108, 108]⟩]) (ho : ∀ p ∈ L, okPl p) (hV : okV (L.map plV) = true) :
    FnOK 0 Tryz.prog 7 ⟨[.agg ⟨[P, fz ⟨L.map plV⟩]⟩, .string ⟨#[98, 105, 103]⟩, .int .i64 calls]⟩ h0 (fun v _ => v = .tuple ⟨[.int .i64 (pcL calls ⟨#[98, 105, 103]⟩ L), .int .i64 0]⟩) := by
  obtain ⟨p0, L0, rfl, e0, h0⟩ := m1 hk
  obtain ⟨p1, L1, rfl, e1, h1⟩ := m1 h0
  obtain ⟨p2, L2, rfl, e2, h2⟩ := m1 h1
  obtain ⟨p3, L3, rfl, e3, h3⟩ := m1 h2
  have := m0 h3
  subst this
  have o0 := ho p0 (by simp)
  have o1 := ho p1 (by simp)
  have o2 := ho p2 (by simp)
  have o3 := ho p3 (by simp)
  obtain ⟨k0, pr0, ba0, fr0, ts0, li0, tr0, as0⟩ := p0
  simp only at e0
  subst e0
  obtain ⟨k1, pr1, ba1, fr1, ts1, li1, tr1, as1⟩ := p1
  simp only at e1
  subst e1
  obtain ⟨k2, pr2, ba2, fr2, ts2, li2, tr2, as2⟩ := p2
  simp only at e2
  subst e2
  obtain ⟨k3, pr3, ba3, fr3, ts3, li3, tr3, as3⟩ := p3
  simp only at e3
  subst e3
  rw [pcL_here (by rfl)]
  exact FnOK.ftree SC2_ok mixed Tryz.func7 somePC (pc0123_0 P calls pr0 ba0 fr0 li0 tr0 (ts0.map tierE) as0 pr1 ba1 fr1 li1 tr1 (ts1.map tierE) as1 pr2 ba2 fr2 li2 tr2 (ts2.map tierE) as2 pr3 ba3 fr3 li3 tr3 (ts3.map tierE) as3 (fun v => v = .tuple ⟨[.int .i64 (price ts0 fr0 calls), .int .i64 0]⟩)) (fin_pc o0 c0 c1 hP hV (by rw [show prV (ts0.map tierE) fr0 calls = price ts0 fr0 calls by unfold prV; rw [unE_map]]))
theorem pc0123_1_fn {P : Value} (hP : okP P = true) {calls : Int} (c0 : 0 ≤ calls) (c1 : calls ≤ 1000) {L : List Pl} (hk : L.map Pl.key = [⟨#[98, 105, 103]⟩, ⟨#[102, 114, 101, 101]⟩, ⟨#[109, 105, 100]⟩, ⟨#[115, 109, 97, 108, 108]⟩]) (ho : ∀ p ∈ L, okPl p) (hV : okV (L.map plV) = true) :
    FnOK 0 Tryz.prog 7 ⟨[.agg ⟨[P, fz ⟨L.map plV⟩]⟩, .string ⟨#[102, 114, 101, 101]⟩, .int .i64 calls]⟩ h0 (fun v _ => v = .tuple ⟨[.int .i64 (pcL calls ⟨#[102, 114, 101, 101]⟩ L), .int .i64 0]⟩) := by
  obtain ⟨p0, L0, rfl, e0, h0⟩ := m1 hk
  obtain ⟨p1, L1, rfl, e1, h1⟩ := m1 h0
  obtain ⟨p2, L2, rfl, e2, h2⟩ := m1 h1
  obtain ⟨p3, L3, rfl, e3, h3⟩ := m1 h2
  have := m0 h3
  subst this
  have o0 := ho p0 (by simp)
  have o1 := ho p1 (by simp)
  have o2 := ho p2 (by simp)
  have o3 := ho p3 (by simp)
  obtain ⟨k0, pr0, ba0, fr0, ts0, li0, tr0, as0⟩ := p0
  simp only at e0
  subst e0
  obtain ⟨k1, pr1, ba1, fr1, ts1, li1, tr1, as1⟩ := p1
  simp only at e1
  subst e1
  obtain ⟨k2, pr2, ba2, fr2, ts2, li2, tr2, as2⟩ := p2
  simp only at e2
  subst e2
  obtain ⟨k3, pr3, ba3, fr3, ts3, li3, tr3, as3⟩ := p3
  simp only at e3
  subst e3
  rw [pcL_next (by rfl), pcL_here (by rfl)]
  exact FnOK.ftree SC2_ok mixed Tryz.func7 somePC (pc0123_1 P calls pr0 ba0 fr0 li0 tr0 (ts0.map tierE) as0 pr1 ba1 fr1 li1 tr1 (ts1.map tierE) as1 pr2 ba2 fr2 li2 tr2 (ts2.map tierE) as2 pr3 ba3 fr3 li3 tr3 (ts3.map tierE) as3 (fun v => v = .tuple ⟨[.int .i64 (price ts1 fr1 calls), .int .i64 0]⟩)) (fin_pc o1 c0 c1 hP hV (by rw [show prV (ts1.map tierE) fr1 calls = price ts1 fr1 calls by unfold prV; rw [unE_map]]))
theorem pc0123_2_fn {P : Value} (hP : okP P = true) {calls : Int} (c0 : 0 ≤ calls) (c1 : calls ≤ 1000) {L : List Pl} (hk : L.map Pl.key = [⟨#[98, 105, 103]⟩, ⟨#[102, 114, 101, 101]⟩, ⟨#[109, 105, 100]⟩, ⟨#[115, 109, 97, 108, 108]⟩]) (ho : ∀ p ∈ L, okPl p) (hV : okV (L.map plV) = true) :
    FnOK 0 Tryz.prog 7 ⟨[.agg ⟨[P, fz ⟨L.map plV⟩]⟩, .string ⟨#[109, 105, 100]⟩, .int .i64 calls]⟩ h0 (fun v _ => v = .tuple ⟨[.int .i64 (pcL calls ⟨#[109, 105, 100]⟩ L), .int .i64 0]⟩) := by
  obtain ⟨p0, L0, rfl, e0, h0⟩ := m1 hk
  obtain ⟨p1, L1, rfl, e1, h1⟩ := m1 h0
  obtain ⟨p2, L2, rfl, e2, h2⟩ := m1 h1
  obtain ⟨p3, L3, rfl, e3, h3⟩ := m1 h2
  have := m0 h3
  subst this
  have o0 := ho p0 (by simp)
  have o1 := ho p1 (by simp)
  have o2 := ho p2 (by simp)
  have o3 := ho p3 (by simp)
  obtain ⟨k0, pr0, ba0, fr0, ts0, li0, tr0, as0⟩ := p0
  simp only at e0
  subst e0
  obtain ⟨k1, pr1, ba1, fr1, ts1, li1, tr1, as1⟩ := p1
  simp only at e1
  subst e1
  obtain ⟨k2, pr2, ba2, fr2, ts2, li2, tr2, as2⟩ := p2
  simp only at e2
  subst e2
  obtain ⟨k3, pr3, ba3, fr3, ts3, li3, tr3, as3⟩ := p3
  simp only at e3
  subst e3
  rw [pcL_next (by rfl), pcL_next (by rfl), pcL_here (by rfl)]
  exact FnOK.ftree SC2_ok mixed Tryz.func7 somePC (pc0123_2 P calls pr0 ba0 fr0 li0 tr0 (ts0.map tierE) as0 pr1 ba1 fr1 li1 tr1 (ts1.map tierE) as1 pr2 ba2 fr2 li2 tr2 (ts2.map tierE) as2 pr3 ba3 fr3 li3 tr3 (ts3.map tierE) as3 (fun v => v = .tuple ⟨[.int .i64 (price ts2 fr2 calls), .int .i64 0]⟩)) (fin_pc o2 c0 c1 hP hV (by rw [show prV (ts2.map tierE) fr2 calls = price ts2 fr2 calls by unfold prV; rw [unE_map]]))
theorem pc0123_3_fn {P : Value} (hP : okP P = true) {calls : Int} (c0 : 0 ≤ calls) (c1 : calls ≤ 1000) {L : List Pl} (hk : L.map Pl.key = [⟨#[98, 105, 103]⟩, ⟨#[102, 114, 101, 101]⟩, ⟨#[109, 105, 100]⟩, ⟨#[115, 109, 97, 108, 108]⟩]) (ho : ∀ p ∈ L, okPl p) (hV : okV (L.map plV) = true) :
    FnOK 0 Tryz.prog 7 ⟨[.agg ⟨[P, fz ⟨L.map plV⟩]⟩, .string ⟨#[115, 109, 97, 108, 108]⟩, .int .i64 calls]⟩ h0 (fun v _ => v = .tuple ⟨[.int .i64 (pcL calls ⟨#[115, 109, 97, 108, 108]⟩ L), .int .i64 0]⟩) := by
  obtain ⟨p0, L0, rfl, e0, h0⟩ := m1 hk
  obtain ⟨p1, L1, rfl, e1, h1⟩ := m1 h0
  obtain ⟨p2, L2, rfl, e2, h2⟩ := m1 h1
  obtain ⟨p3, L3, rfl, e3, h3⟩ := m1 h2
  have := m0 h3
  subst this
  have o0 := ho p0 (by simp)
  have o1 := ho p1 (by simp)
  have o2 := ho p2 (by simp)
  have o3 := ho p3 (by simp)
  obtain ⟨k0, pr0, ba0, fr0, ts0, li0, tr0, as0⟩ := p0
  simp only at e0
  subst e0
  obtain ⟨k1, pr1, ba1, fr1, ts1, li1, tr1, as1⟩ := p1
  simp only at e1
  subst e1
  obtain ⟨k2, pr2, ba2, fr2, ts2, li2, tr2, as2⟩ := p2
  simp only at e2
  subst e2
  obtain ⟨k3, pr3, ba3, fr3, ts3, li3, tr3, as3⟩ := p3
  simp only at e3
  subst e3
  rw [pcL_next (by rfl), pcL_next (by rfl), pcL_next (by rfl), pcL_here (by rfl)]
  exact FnOK.ftree SC2_ok mixed Tryz.func7 somePC (pc0123_3 P calls pr0 ba0 fr0 li0 tr0 (ts0.map tierE) as0 pr1 ba1 fr1 li1 tr1 (ts1.map tierE) as1 pr2 ba2 fr2 li2 tr2 (ts2.map tierE) as2 pr3 ba3 fr3 li3 tr3 (ts3.map tierE) as3 (fun v => v = .tuple ⟨[.int .i64 (price ts3 fr3 calls), .int .i64 0]⟩)) (fin_pc o3 c0 c1 hP hV (by rw [show prV (ts3.map tierE) fr3 calls = price ts3 fr3 calls by unfold prV; rw [unE_map]]))
theorem pc_fn {P : Value} {vs : List Value} {k : ByteArray} {calls : Int} (hP : okP P = true) (hV : okV vs = true) (hk : hasK vs k = true) (c0 : 0 ≤ calls) (c1 : calls ≤ 1000) :
    FnOK 0 Tryz.prog 7 ⟨[.agg ⟨[P, fz ⟨vs⟩]⟩, .string k, .int .i64 calls]⟩ h0 (fun v _ => v = .tuple ⟨[.int .i64 (pcV vs k calls), .int .i64 0]⟩) := by
  have hV2 := hV
  obtain ⟨L, ⟨hs, ho⟩, rfl⟩ := okV_iff.1 hV
  unfold hasK at hk
  rw [unPl_map] at hk
  unfold pcV
  rw [unPl_map]
  simp only [keyS, List.mem_cons, List.not_mem_nil, or_false] at hs
  rcases hs with hs | hs | hs | hs | hs | hs | hs | hs | hs | hs | hs | hs | hs | hs | hs | hs
  · rw [m0 hs] at hk
    cases hk
  · have hs2 := hs
    obtain ⟨p0, L0, e0x, e0, h0⟩ := m1 hs2
    have ez := m0 h0
    rw [e0x, ez] at hk
    simp only [List.any_cons, List.any_nil, Bool.or_false] at hk
    have ek := natsOf_inj (beqN_eq hk)
    rw [e0] at ek
    subst ek
    exact pc0_0_fn hP c0 c1 hs ho hV2
  · have hs2 := hs
    obtain ⟨p1, L1, e1x, e1, h1⟩ := m1 hs2
    have ez := m0 h1
    rw [e1x, ez] at hk
    simp only [List.any_cons, List.any_nil, Bool.or_false] at hk
    have ek := natsOf_inj (beqN_eq hk)
    rw [e1] at ek
    subst ek
    exact pc1_1_fn hP c0 c1 hs ho hV2
  · have hs2 := hs
    obtain ⟨p2, L2, e2x, e2, h2⟩ := m1 hs2
    have ez := m0 h2
    rw [e2x, ez] at hk
    simp only [List.any_cons, List.any_nil, Bool.or_false] at hk
    have ek := natsOf_inj (beqN_eq hk)
    rw [e2] at ek
    subst ek
    exact pc2_2_fn hP c0 c1 hs ho hV2
  · have hs2 := hs
    obtain ⟨p3, L3, e3x, e3, h3⟩ := m1 hs2
    have ez := m0 h3
    rw [e3x, ez] at hk
    simp only [List.any_cons, List.any_nil, Bool.or_false] at hk
    have ek := natsOf_inj (beqN_eq hk)
    rw [e3] at ek
    subst ek
    exact pc3_3_fn hP c0 c1 hs ho hV2
  · have hs2 := hs
    obtain ⟨p0, L0, e0x, e0, h0⟩ := m1 hs2
    obtain ⟨p1, L1, e1x, e1, h1⟩ := m1 h0
    have ez := m0 h1
    rw [e0x, e1x, ez] at hk
    simp only [List.any_cons, List.any_nil, Bool.or_false, Bool.or_eq_true] at hk
    rcases hk with hk | hk
    · have ek := natsOf_inj (beqN_eq hk)
      rw [e0] at ek
      subst ek
      exact pc01_0_fn hP c0 c1 hs ho hV2
    · have ek := natsOf_inj (beqN_eq hk)
      rw [e1] at ek
      subst ek
      exact pc01_1_fn hP c0 c1 hs ho hV2
  · have hs2 := hs
    obtain ⟨p0, L0, e0x, e0, h0⟩ := m1 hs2
    obtain ⟨p2, L2, e2x, e2, h2⟩ := m1 h0
    have ez := m0 h2
    rw [e0x, e2x, ez] at hk
    simp only [List.any_cons, List.any_nil, Bool.or_false, Bool.or_eq_true] at hk
    rcases hk with hk | hk
    · have ek := natsOf_inj (beqN_eq hk)
      rw [e0] at ek
      subst ek
      exact pc02_0_fn hP c0 c1 hs ho hV2
    · have ek := natsOf_inj (beqN_eq hk)
      rw [e2] at ek
      subst ek
      exact pc02_2_fn hP c0 c1 hs ho hV2
  · have hs2 := hs
    obtain ⟨p0, L0, e0x, e0, h0⟩ := m1 hs2
    obtain ⟨p3, L3, e3x, e3, h3⟩ := m1 h0
    have ez := m0 h3
    rw [e0x, e3x, ez] at hk
    simp only [List.any_cons, List.any_nil, Bool.or_false, Bool.or_eq_true] at hk
    rcases hk with hk | hk
    · have ek := natsOf_inj (beqN_eq hk)
      rw [e0] at ek
      subst ek
      exact pc03_0_fn hP c0 c1 hs ho hV2
    · have ek := natsOf_inj (beqN_eq hk)
      rw [e3] at ek
      subst ek
      exact pc03_3_fn hP c0 c1 hs ho hV2
  · have hs2 := hs
    obtain ⟨p1, L1, e1x, e1, h1⟩ := m1 hs2
    obtain ⟨p2, L2, e2x, e2, h2⟩ := m1 h1
    have ez := m0 h2
    rw [e1x, e2x, ez] at hk
    simp only [List.any_cons, List.any_nil, Bool.or_false, Bool.or_eq_true] at hk
    rcases hk with hk | hk
    · have ek := natsOf_inj (beqN_eq hk)
      rw [e1] at ek
      subst ek
      exact pc12_1_fn hP c0 c1 hs ho hV2
    · have ek := natsOf_inj (beqN_eq hk)
      rw [e2] at ek
      subst ek
      exact pc12_2_fn hP c0 c1 hs ho hV2
  · have hs2 := hs
    obtain ⟨p1, L1, e1x, e1, h1⟩ := m1 hs2
    obtain ⟨p3, L3, e3x, e3, h3⟩ := m1 h1
    have ez := m0 h3
    rw [e1x, e3x, ez] at hk
    simp only [List.any_cons, List.any_nil, Bool.or_false, Bool.or_eq_true] at hk
    rcases hk with hk | hk
    · have ek := natsOf_inj (beqN_eq hk)
      rw [e1] at ek
      subst ek
      exact pc13_1_fn hP c0 c1 hs ho hV2
    · have ek := natsOf_inj (beqN_eq hk)
      rw [e3] at ek
      subst ek
      exact pc13_3_fn hP c0 c1 hs ho hV2
  · have hs2 := hs
    obtain ⟨p2, L2, e2x, e2, h2⟩ := m1 hs2
    obtain ⟨p3, L3, e3x, e3, h3⟩ := m1 h2
    have ez := m0 h3
    rw [e2x, e3x, ez] at hk
    simp only [List.any_cons, List.any_nil, Bool.or_false, Bool.or_eq_true] at hk
    rcases hk with hk | hk
    · have ek := natsOf_inj (beqN_eq hk)
      rw [e2] at ek
      subst ek
      exact pc23_2_fn hP c0 c1 hs ho hV2
    · have ek := natsOf_inj (beqN_eq hk)
      rw [e3] at ek
      subst ek
      exact pc23_3_fn hP c0 c1 hs ho hV2
  · have hs2 := hs
    obtain ⟨p0, L0, e0x, e0, h0⟩ := m1 hs2
    obtain ⟨p1, L1, e1x, e1, h1⟩ := m1 h0
    obtain ⟨p2, L2, e2x, e2, h2⟩ := m1 h1
    have ez := m0 h2
    rw [e0x, e1x, e2x, ez] at hk
    simp only [List.any_cons, List.any_nil, Bool.or_false, Bool.or_eq_true] at hk
    rcases hk with hk | hk | hk
    · have ek := natsOf_inj (beqN_eq hk)
      rw [e0] at ek
      subst ek
      exact pc012_0_fn hP c0 c1 hs ho hV2
    · have ek := natsOf_inj (beqN_eq hk)
      rw [e1] at ek
      subst ek
      exact pc012_1_fn hP c0 c1 hs ho hV2
    · have ek := natsOf_inj (beqN_eq hk)
      rw [e2] at ek
      subst ek
      exact pc012_2_fn hP c0 c1 hs ho hV2
  · have hs2 := hs
    obtain ⟨p0, L0, e0x, e0, h0⟩ := m1 hs2
    obtain ⟨p1, L1, e1x, e1, h1⟩ := m1 h0
    obtain ⟨p3, L3, e3x, e3, h3⟩ := m1 h1
    have ez := m0 h3
    rw [e0x, e1x, e3x, ez] at hk
    simp only [List.any_cons, List.any_nil, Bool.or_false, Bool.or_eq_true] at hk
    rcases hk with hk | hk | hk
    · have ek := natsOf_inj (beqN_eq hk)
      rw [e0] at ek
      subst ek
      exact pc013_0_fn hP c0 c1 hs ho hV2
    · have ek := natsOf_inj (beqN_eq hk)
      rw [e1] at ek
      subst ek
      exact pc013_1_fn hP c0 c1 hs ho hV2
    · have ek := natsOf_inj (beqN_eq hk)
      rw [e3] at ek
      subst ek
      exact pc013_3_fn hP c0 c1 hs ho hV2
  · have hs2 := hs
    obtain ⟨p0, L0, e0x, e0, h0⟩ := m1 hs2
    obtain ⟨p2, L2, e2x, e2, h2⟩ := m1 h0
    obtain ⟨p3, L3, e3x, e3, h3⟩ := m1 h2
    have ez := m0 h3
    rw [e0x, e2x, e3x, ez] at hk
    simp only [List.any_cons, List.any_nil, Bool.or_false, Bool.or_eq_true] at hk
    rcases hk with hk | hk | hk
    · have ek := natsOf_inj (beqN_eq hk)
      rw [e0] at ek
      subst ek
      exact pc023_0_fn hP c0 c1 hs ho hV2
    · have ek := natsOf_inj (beqN_eq hk)
      rw [e2] at ek
      subst ek
      exact pc023_2_fn hP c0 c1 hs ho hV2
    · have ek := natsOf_inj (beqN_eq hk)
      rw [e3] at ek
      subst ek
      exact pc023_3_fn hP c0 c1 hs ho hV2
  · have hs2 := hs
    obtain ⟨p1, L1, e1x, e1, h1⟩ := m1 hs2
    obtain ⟨p2, L2, e2x, e2, h2⟩ := m1 h1
    obtain ⟨p3, L3, e3x, e3, h3⟩ := m1 h2
    have ez := m0 h3
    rw [e1x, e2x, e3x, ez] at hk
    simp only [List.any_cons, List.any_nil, Bool.or_false, Bool.or_eq_true] at hk
    rcases hk with hk | hk | hk
    · have ek := natsOf_inj (beqN_eq hk)
      rw [e1] at ek
      subst ek
      exact pc123_1_fn hP c0 c1 hs ho hV2
    · have ek := natsOf_inj (beqN_eq hk)
      rw [e2] at ek
      subst ek
      exact pc123_2_fn hP c0 c1 hs ho hV2
    · have ek := natsOf_inj (beqN_eq hk)
      rw [e3] at ek
      subst ek
      exact pc123_3_fn hP c0 c1 hs ho hV2
  · have hs2 := hs
    obtain ⟨p0, L0, e0x, e0, h0⟩ := m1 hs2
    obtain ⟨p1, L1, e1x, e1, h1⟩ := m1 h0
    obtain ⟨p2, L2, e2x, e2, h2⟩ := m1 h1
    obtain ⟨p3, L3, e3x, e3, h3⟩ := m1 h2
    have ez := m0 h3
    rw [e0x, e1x, e2x, e3x, ez] at hk
    simp only [List.any_cons, List.any_nil, Bool.or_false, Bool.or_eq_true] at hk
    rcases hk with hk | hk | hk | hk
    · have ek := natsOf_inj (beqN_eq hk)
      rw [e0] at ek
      subst ek
      exact pc0123_0_fn hP c0 c1 hs ho hV2
    · have ek := natsOf_inj (beqN_eq hk)
      rw [e1] at ek
      subst ek
      exact pc0123_1_fn hP c0 c1 hs ho hV2
    · have ek := natsOf_inj (beqN_eq hk)
      rw [e2] at ek
      subst ek
      exact pc0123_2_fn hP c0 c1 hs ho hV2
    · have ek := natsOf_inj (beqN_eq hk)
      rw [e3] at ek
      subst ek
      exact pc0123_3_fn hP c0 c1 hs ho hV2
noncomputable def spPc (f : FuncId) (args : Array Value) (h : AH) : Option (Bool × Value × AH) :=
  cond (Nat.beq f 7) (match args with
    | ⟨[.agg ⟨[P, .func (.yield 0) ⟨vs⟩ ⟨[]⟩]⟩, .string k, .int .i64 calls]⟩ => some (okP P && okV vs && hasK vs k && decide (0 ≤ calls) && decide (calls ≤ 1000), .tuple ⟨[.int .i64 (pcV vs k calls), .int .i64 0]⟩, h)
    | _ => none) none
theorem spPc_ok : SpOK spPc := by
  intro f args h v h' hs
  unfold spPc at hs
  obtain ⟨hf, hs2⟩ := cond_some hs
  clear hs
  have := Nat.eq_of_beq_eq_true hf
  subst this
  split at hs2
  · injection hs2 with hs
    injection hs with hb hs
    injection hs with hv hh
    subst hv hh
    simp only [Bool.and_eq_true, decide_eq_true_eq] at hb
    obtain ⟨⟨⟨⟨b0, b1⟩, b2⟩, b3⟩, b4⟩ := hb
    refine ⟨FnOK.pure (pc_fn b0 b1 b2 b3 b4) ?_ rfl h, Nat.le_refl _⟩
    show (List.all [_, _] p1 && _) = true
    simp only [List.all_cons, List.all_nil, okP_p1 b0]
    rfl
  · cases hs2
end Go.Proofs.YtfepnpffbhjakaaGreatDoor
