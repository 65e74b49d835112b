/-
  Limits: what Replay says.
-/
import Derived.Test.YteeomeididcdlaaGreatDoorLmH
namespace Go.Proofs.YteeomeididcdlaaGreatDoor
open Go.Ev Go.RowKit LimLaw

theorem okAs_L {L : List Int} (h0 : up_ 0 L) (hl : L.length ≤ 100) (ht : ∀ x ∈ L, x ≤ 1000) : okAs (L.map aV) = true := by
  refine okAs_iff.2 ⟨L.map toA, ⟨?_, ?_, by rw [List.length_map]; omega⟩, aV_ak L⟩
  · intro a ha
    obtain ⟨t, ht2, rfl⟩ := List.mem_map.1 ha
    have hp : ∀ {L : List Int} {s : Int}, 0 ≤ s → up_ s L → ∀ x ∈ L, 0 ≤ x := by
      intro L
      induction L with
      | nil => intro s _ _ x hx; cases hx
      | cons y L ih =>
        intro s hs hu x hx
        have := hu.1
        rcases List.mem_cons.1 hx with rfl | hx
        · omega
        · exact ih (s := y) (by omega) hu.2 x hx
    exact akOK_ann (hp (Int.le_refl _) h0 t ht2) (ht t ht2)
  · have : (L.map toA).map (·.1) = L := by rw [List.map_map]; exact List.map_id L
    rw [this]; exact h0
theorem nnL (c m p b : Int) : NoNames (.cells ⟨lmC keyB c m p b⟩ 27 (0, 0)) := by
  intro v hv
  have hv : v ∈ lmC keyB c m p b := hv
  simp only [lmC, List.mem_cons, List.not_mem_nil, or_false] at hv
  rcases hv with rfl | rfl | rfl | rfl | rfl <;> rfl
theorem chunk_vdV : ∀ O : List Vd, chunk true 3 O.length (O.flatMap vdC) = O.map vdV
  | [] => rfl
  | t :: l => by
    have := chunk_vdV l
    simp only [List.length_cons, List.flatMap_cons, List.map_cons, chunk]
    rw [show (vdC t ++ l.flatMap vdC).drop 3 = l.flatMap vdC from rfl, this]
    rfl
theorem someRP : Tryz.f16.body.isSome = true := by kernel_rfl
theorem oneRP : (loopAt (codeOf Tryz.f16) 10).length = 1 := by kernel_rfl
theorem rpfN (xs : List Value) (k : ByteArray) (c m p b : Int) (C : List Value → AH → Prop) (Q : Value → Option Obj → Prop) :
    tfn Tryz.prog SRp [] (hook1 10 (hookLS 1 47 [8, 9, 26, 27, 28] [2] [9] (fun vals h K => C vals h ∧ K (.exit 0) [.slice none 0 0] (rpX (lmC k c m p b))))) 3000 [] Tryz.f16 [.slice (some ⟨0, 0, none⟩) 1 1, fz ⟨xs⟩] (clH (lmC k c m p b)) (fun v h => Q v (h.get 0)) =
      bif okLB k c m p b && true then bif okAs xs then NoNames (.cells ⟨lmC k c m p b⟩ 27 (0, 0)) ∧ C (rpV xs (.slice none 0 0) ((Array.mk xs).size : Int) 0) (mt0 (lmC k c m p b) 0) ∧ Q (.tuple ⟨[.slice none 0 0, .int .i64 0]⟩) (some (.cells ⟨lmC k c m p b⟩ 27 (0, 0))) else False else False := by kernel_rfl
theorem rpfB (xs oc : List Value) (j : Nat) (k : ByteArray) (c m p b : Int) (C : List Value → AH → Prop) (Q : Value → Option Obj → Prop) :
    tfn Tryz.prog SRp [] (hook1 10 (thenLS (hookLS 1 47 [8, 9, 26, 27, 28] [2] [9] (fun vals h K => C vals h ∧ K (.exit 0) [.slice (some ⟨1, 0, none⟩) j j] (rpXo (lmC k c m p b) oc))) (freezeG 47 true 3 [9]))) 3000 [] Tryz.f16 [.slice (some ⟨0, 0, none⟩) 1 1, fz ⟨xs⟩] (clH (lmC k c m p b)) (fun v h => Q v (h.get 0)) =
      bif okLB k c m p b && true then bif okAs xs then NoNames (.cells ⟨lmC k c m p b⟩ 27 (0, 0)) ∧ C (rpV xs (.slice none 0 0) ((Array.mk xs).size : Int) 0) (mt0 (lmC k c m p b) 0) ∧
        bif ((Nat.beq j j && Nat.beq j j) && true) && oc.all p1 && j.ble j && (j * 3).ble oc.length && true then Q (.tuple ⟨[fz ⟨chunk true 3 j oc⟩, .int .i64 0]⟩) (some (.cells ⟨lmC k c m p b⟩ 27 (0, 0))) else False else False else False := by kernel_rfl
theorem rp_fn {σ : Type} {c m p b : Int} (hc : okL c m p b) {H : σ → List Value → Int → AH} {step : σ → Int → Vd × σ} {good : σ → Int → Prop} {s0 : σ} (hF : FirstOK [2] (lmC keyB c m p b) H step s0) (hR : RoundOK [2] (lmC keyB c m p b) H step good)
    (hg : ∀ s now t, good s now → now ≤ t → 0 ≤ t → t ≤ 1000 → good (step s t).2 t) (hg0 : good s0 0) : ∀ {L : List Int} (_ : up_ 0 L) (_ : L.length ≤ 100) (_ : ∀ x ∈ L, x ≤ 1000),
    FnOK 1 Tryz.prog 16 ⟨[.slice (some ⟨0, 0, none⟩) 1 1, fz ⟨L.map aV⟩]⟩ (clH (lmC keyB c m p b)) (fun v g => v = .tuple ⟨[fz ⟨(runG step s0 L).map vdV⟩, .int .i64 0]⟩ ∧ g.get 0 = some (.cells ⟨lmC keyB c m p b⟩ 27 (0, 0)))
  | [], h0, hl, ht => by
    have hk : (okLB keyB c m p b && true) = true := by rw [okLB_iff.2 ⟨rfl, hc⟩]; rfl
    have hsp : LSpec 1 Tryz.prog 47 (oneLoop (codeOf Tryz.f16) 10) (hookLS 1 47 [8, 9, 26, 27, 28] [2] [9] (fun vals h K => (vals = rpV ([] : List Value) (.slice none 0 0) 0 0 ∧ h = mt0 (lmC keyB c m p b) 0) ∧ K (.exit 0) [.slice none 0 0] (rpX (lmC keyB c m p b)))) := by
      refine hookE_ok (sameX := [1]) mixed (by decide) ?_
      rintro vals h K ⟨⟨rfl, rfl⟩, hK⟩
      exact ⟨_, rl_all hF hR hg hg0 (L := []) h0 hl ht K hK⟩
    refine FnOK.weakT ((FnOK.ttree SRp_ok mixed Tryz.func16 someRP (loops_one oneRP hsp) (rpfN [] keyB c m p b _ (fun v o => v = .tuple ⟨[.slice none 0 0, .int .i64 0]⟩ ∧ o = some (.cells ⟨lmC keyB c m p b⟩ 27 (0, 0))))
      (need_mk hk (need_mk (okAs_L h0 hl ht) ⟨nnL c m p b, ⟨rfl, rfl⟩, rfl, rfl⟩))).mono ?_)
    rintro v g ⟨rfl, hg2⟩
    refine ⟨_, _, g, rfl, Weak.nil (τ2 := #[fz #[], .int .i64 0]) rfl (fun i => ?_), rfl, hg2⟩
    match i with
    | 0 => exact .inr ⟨0, rfl, rfl⟩
    | i + 1 => exact .inl (by simp)
  | t :: l, h0, hl, ht => by
    have hk : (okLB keyB c m p b && true) = true := by rw [okLB_iff.2 ⟨rfl, hc⟩]; rfl
    have hsz : (Array.mk ((t :: l).map aV)).size = (t :: l).length := by simp
    have hlen := runG_len step (t :: l) s0
    have hvl := vdC_len (runG step s0 (t :: l))
    have hsp : LSpec 1 Tryz.prog 47 (oneLoop (codeOf Tryz.f16) 10) (thenLS (hookLS 1 47 [8, 9, 26, 27, 28] [2] [9] (fun vals h K => (vals = rpV ((t :: l).map aV) (.slice none 0 0) ((t :: l).length : Int) 0 ∧ h = mt0 (lmC keyB c m p b) 0) ∧
        K (.exit 0) [.slice (some ⟨1, 0, none⟩) (t :: l).length (t :: l).length] (rpXo (lmC keyB c m p b) ((runG step s0 (t :: l)).flatMap vdC)))) (freezeG 47 true 3 [9])) := by
      refine thenLS_ok (hookE_ok (sameX := [1]) mixed (by decide) ?_) (freezeG_ok _ _ _ _ _ _)
      rintro vals h K ⟨⟨rfl, rfl⟩, hK⟩
      exact ⟨_, rl_all hF hR hg hg0 (L := t :: l) h0 hl ht K hK⟩
    refine FnOK.ttree SRp_ok mixed Tryz.func16 someRP (loops_one oneRP hsp) (rpfB ((t :: l).map aV) ((runG step s0 (t :: l)).flatMap vdC) (t :: l).length keyB c m p b _ (fun v o => v = .tuple ⟨[fz ⟨(runG step s0 (t :: l)).map vdV⟩, .int .i64 0]⟩ ∧ o = some (.cells ⟨lmC keyB c m p b⟩ 27 (0, 0)))) ?_
    refine need_mk hk (need_mk (okAs_L h0 hl ht) ⟨nnL c m p b, ⟨by rw [hsz], rfl⟩, need_mk ?_ ⟨?_, rfl⟩⟩)
    · rw [Nat.beq_refl, Nat.ble_eq_true_of_le (Nat.le_refl _), hvl, hlen, Nat.ble_eq_true_of_le (Nat.le_refl _), List.all_eq_true.2 (fun v hv => p1_vdC v hv)]
      rfl
    · rw [← hlen, chunk_vdV]
theorem rpfNS (xs : List Value) (k : ByteArray) (c m p b : Int) (C : List Value → AH → Prop) (Q : Value → Option Obj → Prop) :
    tfn Tryz.prog SRp [] (hook1 10 (hookLS 1 47 [8, 9, 26, 27, 28] [2, 7] [9] (fun vals h K => C vals h ∧ K (.exit 0) [.slice none 0 0] (rpX (lmC k c m p b))))) 3000 [] Tryz.f16 [.slice (some ⟨0, 0, none⟩) 1 1, fz ⟨xs⟩] (clH (lmC k c m p b)) (fun v h => Q v (h.get 0)) =
      bif okLB k c m p b && true then bif okAs xs then NoNames (.cells ⟨lmC k c m p b⟩ 27 (0, 0)) ∧ C (rpV xs (.slice none 0 0) ((Array.mk xs).size : Int) 0) (mt0 (lmC k c m p b) 0) ∧ Q (.tuple ⟨[.slice none 0 0, .int .i64 0]⟩) (some (.cells ⟨lmC k c m p b⟩ 27 (0, 0))) else False else False := by kernel_rfl
theorem rpfBS (xs oc : List Value) (j : Nat) (k : ByteArray) (c m p b : Int) (C : List Value → AH → Prop) (Q : Value → Option Obj → Prop) :
    tfn Tryz.prog SRp [] (hook1 10 (thenLS (hookLS 1 47 [8, 9, 26, 27, 28] [2, 7] [9] (fun vals h K => C vals h ∧ K (.exit 0) [.slice (some ⟨1, 0, none⟩) j j] (rpXo (lmC k c m p b) oc))) (freezeG 47 true 3 [9]))) 3000 [] Tryz.f16 [.slice (some ⟨0, 0, none⟩) 1 1, fz ⟨xs⟩] (clH (lmC k c m p b)) (fun v h => Q v (h.get 0)) =
      bif okLB k c m p b && true then bif okAs xs then NoNames (.cells ⟨lmC k c m p b⟩ 27 (0, 0)) ∧ C (rpV xs (.slice none 0 0) ((Array.mk xs).size : Int) 0) (mt0 (lmC k c m p b) 0) ∧
        bif ((Nat.beq j j && Nat.beq j j) && true) && oc.all p1 && j.ble j && (j * 3).ble oc.length && true then Q (.tuple ⟨[fz ⟨chunk true 3 j oc⟩, .int .i64 0]⟩) (some (.cells ⟨lmC k c m p b⟩ 27 (0, 0))) else False else False else False := by kernel_rfl
theorem rp_fnS {σ : Type} {c m p b : Int} (hc : okL c m p b) {H : σ → List Value → Int → AH} {step : σ → Int → Vd × σ} {good : σ → Int → Prop} {s0 : σ} (hF : FirstOK [2, 7] (lmC keyB c m p b) H step s0) (hR : RoundOK [2, 7] (lmC keyB c m p b) H step good)
    (hg : ∀ s now t, good s now → now ≤ t → 0 ≤ t → t ≤ 1000 → good (step s t).2 t) (hg0 : good s0 0) : ∀ {L : List Int} (_ : up_ 0 L) (_ : L.length ≤ 100) (_ : ∀ x ∈ L, x ≤ 1000),
    FnOK 1 Tryz.prog 16 ⟨[.slice (some ⟨0, 0, none⟩) 1 1, fz ⟨L.map aV⟩]⟩ (clH (lmC keyB c m p b)) (fun v g => v = .tuple ⟨[fz ⟨(runG step s0 L).map vdV⟩, .int .i64 0]⟩ ∧ g.get 0 = some (.cells ⟨lmC keyB c m p b⟩ 27 (0, 0)))
  | [], h0, hl, ht => by
    have hk : (okLB keyB c m p b && true) = true := by rw [okLB_iff.2 ⟨rfl, hc⟩]; rfl
    have hsp : LSpec 1 Tryz.prog 47 (oneLoop (codeOf Tryz.f16) 10) (hookLS 1 47 [8, 9, 26, 27, 28] [2, 7] [9] (fun vals h K => (vals = rpV ([] : List Value) (.slice none 0 0) 0 0 ∧ h = mt0 (lmC keyB c m p b) 0) ∧ K (.exit 0) [.slice none 0 0] (rpX (lmC keyB c m p b)))) := by
      refine hookE_ok (sameX := [1]) mixed (by decide) ?_
      rintro vals h K ⟨⟨rfl, rfl⟩, hK⟩
      exact ⟨_, rl_all hF hR hg hg0 (L := []) h0 hl ht K hK⟩
    refine FnOK.weakT ((FnOK.ttree SRp_ok mixed Tryz.func16 someRP (loops_one oneRP hsp) (rpfNS [] keyB c m p b _ (fun v o => v = .tuple ⟨[.slice none 0 0, .int .i64 0]⟩ ∧ o = some (.cells ⟨lmC keyB c m p b⟩ 27 (0, 0))))
      (need_mk hk (need_mk (okAs_L h0 hl ht) ⟨nnL c m p b, ⟨rfl, rfl⟩, rfl, rfl⟩))).mono ?_)
    rintro v g ⟨rfl, hg2⟩
    refine ⟨_, _, g, rfl, Weak.nil (τ2 := #[fz #[], .int .i64 0]) rfl (fun i => ?_), rfl, hg2⟩
    match i with
    | 0 => exact .inr ⟨0, rfl, rfl⟩
    | i + 1 => exact .inl (by simp)
  | t :: l, h0, hl, ht => by
    have hk : (okLB keyB c m p b && true) = true := by rw [okLB_iff.2 ⟨rfl, hc⟩]; rfl
    have hsz : (Array.mk ((t :: l).map aV)).size = (t :: l).length := by simp
    have hlen := runG_len step (t :: l) s0
    have hvl := vdC_len (runG step s0 (t :: l))
    have hsp : LSpec 1 Tryz.prog 47 (oneLoop (codeOf Tryz.f16) 10) (thenLS (hookLS 1 47 [8, 9, 26, 27, 28] [2, 7] [9] (fun vals h K => (vals = rpV ((t :: l).map aV) (.slice none 0 0) ((t :: l).length : Int) 0 ∧ h = mt0 (lmC keyB c m p b) 0) ∧
        K (.exit 0) [.slice (some ⟨1, 0, none⟩) (t :: l).length (t :: l).length] (rpXo (lmC keyB c m p b) ((runG step s0 (t :: l)).flatMap vdC)))) (freezeG 47 true 3 [9])) := by
      refine thenLS_ok (hookE_ok (sameX := [1]) mixed (by decide) ?_) (freezeG_ok _ _ _ _ _ _)
      rintro vals h K ⟨⟨rfl, rfl⟩, hK⟩
      exact ⟨_, rl_all hF hR hg hg0 (L := t :: l) h0 hl ht K hK⟩
    refine FnOK.ttree SRp_ok mixed Tryz.func16 someRP (loops_one oneRP hsp) (rpfBS ((t :: l).map aV) ((runG step s0 (t :: l)).flatMap vdC) (t :: l).length keyB c m p b _ (fun v o => v = .tuple ⟨[fz ⟨(runG step s0 (t :: l)).map vdV⟩, .int .i64 0]⟩ ∧ o = some (.cells ⟨lmC keyB c m p b⟩ 27 (0, 0)))) ?_
    refine need_mk hk (need_mk (okAs_L h0 hl ht) ⟨nnL c m p b, ⟨by rw [hsz], rfl⟩, need_mk ?_ ⟨?_, rfl⟩⟩)
    · rw [Nat.beq_refl, Nat.ble_eq_true_of_le (Nat.le_refl _), hvl, hlen, Nat.ble_eq_true_of_le (Nat.le_refl _), List.all_eq_true.2 (fun v hv => p1_vdC v hv)]
      rfl
    · rw [← hlen, chunk_vdV]

/-- What Replay says of asks at some moments. -/
theorem rp_ex {c m p b : Int} (h : okL c m p b) {L : List Int} (h0 : up_ 0 L) (hl : L.length ≤ 100) (ht : ∀ x ∈ L, x ≤ 1000) : ∃ R : List Vd, R.length = L.length ∧
    ((c = 1 ∧ okPer p ∧ R.map (·.1) = runW m p 0 0 L) ∨ (c = 2 ∧ okPer p ∧ R.map (·.1) = runS m p [] L) ∨ (c = 3 ∧ okPer p ∧ okBu b ∧ R.map (·.1) = runB m p (b * p) 0 (b * p) L) ∨ c = 4) ∧
    FnOK 1 Tryz.prog 16 ⟨[.slice (some ⟨0, 0, none⟩) 1 1, fz ⟨L.map aV⟩]⟩ (clH (lmC keyB c m p b)) (fun v g => v = .tuple ⟨[fz ⟨R.map vdV⟩, .int .i64 0]⟩ ∧ g.get 0 = some (.cells ⟨lmC keyB c m p b⟩ 27 (0, 0))) := by
  have hL := h
  obtain ⟨hm, hk⟩ := h
  have hm5 := okM_in hm
  rcases hk with ⟨rfl, hp, rfl⟩ | ⟨rfl, hp, rfl⟩ | ⟨rfl, hp, hb⟩ | ⟨rfl, rfl, rfl⟩
  · exact ⟨_, runG_len _ L (0, 0), .inl ⟨rfl, hp, runW_eq m p L 0 0⟩, rp_fn hL (fW hm hp) (rW hm hp) (gdW hm) ⟨Int.le_refl _, by show (0 : Int) ≤ m; omega⟩ h0 hl ht⟩
  · exact ⟨_, runG_len _ L [], .inr (.inl ⟨rfl, hp, runS_eq m p L []⟩), rp_fnS hL (fS hm hp) (rS hm hp) (gdS hm) ⟨by decide, fun u hu => by cases hu⟩ h0 hl ht⟩
  · have hf := full_in hp hb
    exact ⟨_, runG_len _ L (0, b * p), .inr (.inr (.inl ⟨rfl, hp, hb, runB_eq m p b L 0 (b * p)⟩)), rp_fn hL (fB hm hp hb) (rB hm hp hb) (gdB hm hp hb) ⟨by show 0 ≤ b * p; omega, Int.le_refl _, Int.le_refl _, Int.le_refl _⟩ h0 hl ht⟩
  · exact ⟨_, runG_len _ L (), .inr (.inr (.inr rfl)), rp_fn hL (fO hm) (rO hm) (fun _ _ _ _ _ _ _ => trivial) trivial h0 hl ht⟩
end Go.Proofs.YteeomeididcdlaaGreatDoor
