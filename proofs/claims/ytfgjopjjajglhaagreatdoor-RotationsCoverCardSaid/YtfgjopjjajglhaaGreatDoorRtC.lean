/-
  Signers in a row: 'Rotate' as a specification.
-/
import Derived.Test.YtfgjopjjajglhaaGreatDoorRtB
namespace Go.Proofs.YtfgjopjjajglhaaGreatDoor
open Go.Ev Go.RowKit RotLaw

def svC (s : Sg) : List Value := [.string (idS s.id), .string keyS, .int .i64 s.fr, .int .i64 s.to, .int .i64 s.un]
theorem chunk_sv : ∀ L : List Sg, chunk true 5 L.length (L.flatMap svC) = L.map svV
  | [] => rfl
  | t :: l => by
    have := chunk_sv l
    simp only [List.length_cons, List.flatMap_cons, List.map_cons, chunk]
    rw [show (svC t ++ l.flatMap svC).drop 5 = l.flatMap svC from rfl, this]
    rfl
theorem sv_len : ∀ L : List Sg, (L.flatMap svC).length = L.length * 5
  | [] => rfl
  | t :: l => by
    rw [List.flatMap_cons, List.length_append, sv_len l, List.length_cons]
    show 5 + _ = _
    omega
theorem p1_sv {L : List Sg} : ∀ v ∈ L.flatMap svC, p1 v = true := by
  intro v hv
  obtain ⟨t, _, h⟩ := List.mem_flatMap.1 hv
  simp only [svC, List.mem_cons, List.not_mem_nil, or_false] at h
  rcases h with rfl | rfl | rfl | rfl | rfl <;> rfl
theorem freezeV {p : Nat} {P : Program} {h : AH} {b : Nat} {t : TypeId} {fr : Nat × Nat} (L : List Sg) {m : Nat} (e : Value) (hm : L.length = m) (hb : h.get b = some (.cells ⟨L.flatMap svC⟩ t fr)) :
    Weak p P #[.slice (some ⟨b, 0, none⟩) m m, e] h #[fz ⟨L.map svV⟩, e] (h.del b) := by
  have hlen := sv_len L
  have hch := chunk_sv L
  have hle : L.length * 5 ≤ (L.flatMap svC).length := by omega
  have hg := chunk_get true 5 rfl L.length (L.flatMap svC) (fun v hv => p1_sv v hv) hle
  rw [hch] at hg
  refine Weak.freeze (n := m) (cap := m) b 5 ⟨L.map svV⟩ hb (fun v hv => p1_sv v hv) (by simpa using hm) (Nat.le_refl _) (by show m * 5 ≤ (L.flatMap svC).length; omega) ?_ ?_ rfl ?_
  · intro i x hx
    exact (hg i x (by simpa using hx)).1
  · intro i j x v hx hv
    have := (hg i x (by simpa using hx)).2 j v hv
    simpa using this
  · intro i
    match i with
    | 0 => exact .inr ⟨rfl, rfl⟩
    | i + 1 => exact .inl (by simp)
theorem resO_some {v : Value} {h : AH} {m c : Nat} {cs : Array Value} {t : TypeId} {fr : Nat × Nat} {e : Value} (hr : resO v h = some (m, c, cs, t, fr, e)) : ∃ b, v = .tuple ⟨[.slice (some ⟨b, 0, none⟩) m c, e]⟩ ∧ h.get b = some (.cells cs t fr) := by
  unfold resO at hr
  split at hr
  · rename_i b m' c' e'
    split at hr
    · rename_i cs' t' fr' hg
      simp only [Option.some.injEq, Prod.mk.injEq] at hr
      obtain ⟨rfl, rfl, rfl, rfl, rfl, rfl⟩ := hr
      exact ⟨b, rfl, hg⟩
    · cases hr
  · cases hr
theorem mn_l {a b : Int} (h : a ≤ b) : mnI a b = a := by unfold mnI; rw [if_neg (by omega)]
theorem mn_r {a b : Int} (h : b ≤ a) : mnI a b = b := by
  unfold mnI
  split
  · rfl
  · omega
theorem roT_ok {t life : Int} {p : Option Int} (h0 : 0 ≤ t) (h1 : t < 345686400000) (h2 : 0 ≤ life) (h3 : life ≤ 345686400000) (h4 : ∀ f, p = some f → f ≤ t) {Y X : Prop} (hX : X) : roT t life p Y X := by
  unfold roT
  refine pick_t (decide_eq_true h0) (pick_f (by rw [decide_eq_true h1]; rfl) (pick_f (decide_eq_false (by omega)) (pick_f (decide_eq_false (by omega)) ?_)))
  cases p with
  | none => exact hX
  | some f => have := h4 f rfl; exact pick_f (decide_eq_false (by omega)) hX
theorem someRO : Tryz.f5.body.isSome = true := by kernel_rfl
theorem ro_fin {args : Array Value} {L : List Sg} {m : Nat} (hm : L.length = m) (hF : FnOK 0 Tryz.prog 5 args h0 (fun v h => resO v h = some (m, m, ⟨L.flatMap svC⟩, 38, (0, 0), .int .i64 0))) : FnOK 0 Tryz.prog 5 args h0 (fun v _ => v = .tuple ⟨[fz ⟨L.map svV⟩, .int .i64 0]⟩) := by
  refine FnOK.weakT (hF.mono ?_)
  intro v h hr
  obtain ⟨b, rfl, hg⟩ := resO_some hr
  exact ⟨_, _, _, rfl, freezeV L _ hm hg, rfl⟩
theorem w_id {a b : Int} (h0 : 0 ≤ a) (h1 : a ≤ 1000000) (h2 : 0 ≤ b) (h3 : b ≤ 1000000) : IntKind.i64.wrap (a + b) = a + b := wrap_id _ (by omega) (by omega)
/-- What a rotation at a moment asks. -/
def Next (A : List Int) (t : Int) : Prop := A.length ≤ 3 ∧ lastI A + 1 ≤ t ∧ t ≤ lastI A + 100
theorem good_next {life : Int} {A : List Int} {t : Int} (h : Good life A) (hn : Next A t) : Good life (A ++ [t]) := by
  obtain ⟨⟨⟨r, rfl⟩, h4, hg⟩, l0, l1⟩ := h
  obtain ⟨n1, n2, n3⟩ := hn
  refine ⟨⟨⟨r ++ [t], rfl⟩, by simp at n1 ⊢; omega, ?_⟩, l0, l1⟩
  have key : ∀ (r : List Int) (a : Int), gaps (a :: r) → lastI (a :: r) + 1 ≤ t → t ≤ lastI (a :: r) + 100 → gaps ((a :: r) ++ [t]) := by
    intro r
    induction r with
    | nil => intro a _ q1 q2; exact ⟨q1, q2, trivial⟩
    | cons b r ih => intro a q q1 q2; exact ⟨q.1, q.2.1, ih b q.2.2 q1 q2⟩
  exact key r 0 hg n2 n3
theorem ro_fn {life t : Int} {A : List Int} (h : Good life A) (hn : Next A t) : FnOK 0 Tryz.prog 5 ⟨[fz ⟨gV life A⟩, .string (idS A.length), .string keyS, .int .i64 t, .int .i64 100, .int .i64 life]⟩ h0 (fun v _ => v = .tuple ⟨[fz ⟨gV life (A ++ [t])⟩, .int .i64 0]⟩) := by
  have hG : okG (gV life A) = true := okG_iff.2 ⟨life, A, h, rfl⟩
  obtain ⟨⟨⟨r, rfl⟩, h4, hg⟩, l0, l1⟩ := h
  obtain ⟨n1, n2, n3⟩ := hn
  match r, h4, hg, n1, n2, n3, hG with
  | [], h4, hg, n1, n2, n3, hG =>
    simp only [lastI] at n2 n3
    refine ro_fin (L := sgs life 0 [0, t]) (m := 2) rfl (FnOK.ftree SC1_ok mixed Tryz.func5 someRO (ro1 (0) (0 + 100) (0 + 100 + life) t life (fun o => o = some (2, 2, ⟨(sgs life 0 [0, t]).flatMap svC⟩, 38, (0, 0), .int .i64 0))) ?_)
    refine need_mk hG (roT_ok (by omega) (by omega) l0 (by omega) (fun f q => by cases q; omega) ?_)
    rw [w_id (a := t) (by omega) (by omega) (by omega) (by omega), mn_l (a := t + 100) (by omega), w_id (a := t + 100) (by omega) (by omega) (by omega) (by omega), mn_l (a := t + 100 + life) (by omega), mn_r (a := 0 + 100) (b := t) (by omega)]
    rfl
  | [b], h4, hg, n1, n2, n3, hG =>
    simp only [gaps] at hg
    simp only [lastI] at n2 n3
    refine ro_fin (L := sgs life 0 [0, b, t]) (m := 3) rfl (FnOK.ftree SC1_ok mixed Tryz.func5 someRO (ro2 (0) (b) (0 + 100 + life) (b) (b + 100) (b + 100 + life) t life (fun o => o = some (3, 3, ⟨(sgs life 0 [0, b, t]).flatMap svC⟩, 38, (0, 0), .int .i64 0))) ?_)
    refine need_mk hG (roT_ok (by omega) (by omega) l0 (by omega) (fun f q => by cases q; omega) ?_)
    rw [w_id (a := t) (by omega) (by omega) (by omega) (by omega), mn_l (a := t + 100) (by omega), w_id (a := t + 100) (by omega) (by omega) (by omega) (by omega), mn_l (a := t + 100 + life) (by omega), mn_l (a := b) (b := t) (by omega), mn_r (a := b + 100) (b := t) (by omega)]
    rfl
  | [b, c], h4, hg, n1, n2, n3, hG =>
    simp only [gaps] at hg
    simp only [lastI] at n2 n3
    refine ro_fin (L := sgs life 0 [0, b, c, t]) (m := 4) rfl (FnOK.ftree SC1_ok mixed Tryz.func5 someRO (ro3 (0) (b) (0 + 100 + life) (b) (c) (b + 100 + life) (c) (c + 100) (c + 100 + life) t life (fun o => o = some (4, 4, ⟨(sgs life 0 [0, b, c, t]).flatMap svC⟩, 38, (0, 0), .int .i64 0))) ?_)
    refine need_mk hG (roT_ok (by omega) (by omega) l0 (by omega) (fun f q => by cases q; omega) ?_)
    rw [w_id (a := t) (by omega) (by omega) (by omega) (by omega), mn_l (a := t + 100) (by omega), w_id (a := t + 100) (by omega) (by omega) (by omega) (by omega), mn_l (a := t + 100 + life) (by omega), mn_l (a := b) (b := t) (by omega), mn_l (a := c) (b := t) (by omega), mn_r (a := c + 100) (b := t) (by omega)]
    rfl
  | _ :: _ :: _ :: _, _, _, n1, _, _, _ => exact absurd n1 (by simp)
theorem ro_fn0 {life t : Int} (h0' : t = 0) (l0 : 0 ≤ life) (l1 : life ≤ 50) : FnOK 0 Tryz.prog 5 ⟨[.slice none 0 0, .string (idS 0), .string keyS, .int .i64 t, .int .i64 100, .int .i64 life]⟩ h0 (fun v _ => v = .tuple ⟨[fz ⟨gV life [t]⟩, .int .i64 0]⟩) := by
  refine ro_fin (L := sgs life 0 [t]) (m := 1) rfl (FnOK.ftree SC1_ok mixed Tryz.func5 someRO (ro0 t life (fun o => o = some (1, 1, ⟨(sgs life 0 [t]).flatMap svC⟩, 38, (0, 0), .int .i64 0))) ?_)
  refine roT_ok (by omega) (by omega) l0 (by omega) (fun f q => by cases q) ?_
  rw [w_id (by omega) (by omega) (by omega) (by omega), mn_l (by omega), w_id (by omega) (by omega) (by omega) (by omega), mn_l (by omega)]
  rfl
def frs (vs : List Value) : List Int := vs.map fun v => toInt (v.cells.toList.getD 2 undef)
theorem frs_gV (life : Int) (A : List Int) : frs (gV life A) = A := by
  have key : ∀ (A : List Int) (i : Nat), ((sgs life i A).map svV).map (fun v => toInt (v.cells.toList.getD 2 undef)) = A := by
    intro A
    induction A with
    | nil => intro i; rfl
    | cons a r ih =>
      intro i
      cases r with
      | nil => rfl
      | cons b r =>
        have := ih (i + 1)
        show a :: (((sgs life (i + 1) (b :: r)).map svV).map (fun v => toInt (v.cells.toList.getD 2 undef))) = _
        rw [this]
  exact key A 0
open Classical in
noncomputable def okRo (vs : List Value) (id sec : ByteArray) (t lg life : Int) : Bool := @decide (∃ A, Good life A ∧ Next A t ∧ vs = gV life A ∧ id = idS A.length ∧ sec = keyS ∧ lg = 100) (Classical.propDecidable _)
theorem okRo_iff {vs : List Value} {id sec : ByteArray} {t lg life : Int} : okRo vs id sec t lg life = true ↔ ∃ A, Good life A ∧ Next A t ∧ vs = gV life A ∧ id = idS A.length ∧ sec = keyS ∧ lg = 100 := by unfold okRo; exact @decide_eq_true_iff _ (Classical.propDecidable _)
open Classical in
noncomputable def okR0 (id sec : ByteArray) (t lg life : Int) : Bool := @decide (id = idS 0 ∧ sec = keyS ∧ t = 0 ∧ lg = 100 ∧ 0 ≤ life ∧ life ≤ 50) (Classical.propDecidable _)
theorem okR0_iff {id sec : ByteArray} {t lg life : Int} : okR0 id sec t lg life = true ↔ (id = idS 0 ∧ sec = keyS ∧ t = 0 ∧ lg = 100 ∧ 0 ≤ life ∧ life ≤ 50) := by unfold okR0; exact @decide_eq_true_iff _ (Classical.propDecidable _)
noncomputable def spRo (f : FuncId) (args : Array Value) (h : AH) : Option (Bool × Value × AH) :=
  cond (Nat.beq f 5) (match args with
    | ⟨[.func (.yield 0) ⟨vs⟩ ⟨[]⟩, .string id, .string sec, .int .i64 t, .int .i64 lg, .int .i64 life]⟩ => some (okRo vs id sec t lg life, .tuple ⟨[fz ⟨gV life (frs vs ++ [t])⟩, .int .i64 0]⟩, h)
    | ⟨[.slice none 0 0, .string id, .string sec, .int .i64 t, .int .i64 lg, .int .i64 life]⟩ => some (okR0 id sec t lg life, .tuple ⟨[fz ⟨gV life [t]⟩, .int .i64 0]⟩, h)
    | _ => none) none
theorem spRo_ok : SpOK spRo := by
  intro f args h v h' hs
  unfold spRo at hs
  obtain ⟨hf, hs2⟩ := cond_some hs
  clear hs
  have := Nat.eq_of_beq_eq_true hf
  subst this
  split at hs2
  · rename_i vs id sec t lg life
    injection hs2 with hs
    injection hs with hb hs
    injection hs with hv hh
    subst hv hh
    obtain ⟨A, hA, hn, rfl, rfl, rfl, rfl⟩ := okRo_iff.1 hb
    rw [frs_gV]
    exact ⟨FnOK.pure (ro_fn hA hn) rfl rfl h, Nat.le_refl _⟩
  · rename_i id sec t lg life
    injection hs2 with hs
    injection hs with hb hs
    injection hs with hv hh
    subst hv hh
    obtain ⟨rfl, rfl, h0', rfl, l0, l1⟩ := okR0_iff.1 hb
    exact ⟨FnOK.pure (ro_fn0 h0' l0 l1) rfl rfl h, Nat.le_refl _⟩
  · cases hs2
end Go.Proofs.YtfgjopjjajglhaaGreatDoor
