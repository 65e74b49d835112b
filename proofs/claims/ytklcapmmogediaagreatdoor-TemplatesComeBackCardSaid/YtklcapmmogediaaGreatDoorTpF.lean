/-
  Templates: wordsOf, Split, ParseTemplate as specifications.
-/
import Derived.Test.YtklcapmmogediaaGreatDoorTpE
namespace Go.Proofs.YtklcapmmogediaaGreatDoor
open Go.Ev Go.RowKit TplLaw

theorem wo_all : ∀ n ∈ allN, dotsB n = false → FnOK 0 Tryz.prog 22 ⟨[.string (bl (segB n))]⟩ h0 (fun v _ => v = .tuple ⟨[pv 1 (bl n), .int .i64 0]⟩) := by
  intro n hn hd
  simp only [allN, List.mem_cons, List.not_mem_nil, or_false] at hn
  rcases hn with rfl | rfl | rfl | rfl | rfl | rfl | rfl | rfl | rfl | rfl | rfl | rfl
  · rw [show bl (segB [97]) = ⟨#[97]⟩ from by kernel_rfl]; exact wo0F
  · rw [show bl (segB [98, 32, 99]) = ⟨#[98, 37, 50, 48, 99]⟩ from by kernel_rfl]; exact wo1F
  · rw [show bl (segB []) = ⟨#[]⟩ from by kernel_rfl]; exact wo2F
  · rw [show bl (segB [97, 47, 98]) = ⟨#[97, 37, 50, 70, 98]⟩ from by kernel_rfl]; exact wo3F
  · rw [show bl (segB [255]) = ⟨#[37, 70, 70]⟩ from by kernel_rfl]; exact wo4F
  · exact absurd hd (by decide)
  · rw [show bl (segB [123]) = ⟨#[37, 55, 66]⟩ from by kernel_rfl]; exact wo6F
  · rw [show bl (segB [105, 100]) = ⟨#[105, 100]⟩ from by kernel_rfl]; exact wo7F
  · rw [show bl (segB [120]) = ⟨#[120]⟩ from by kernel_rfl]; exact wo8F
  · rw [show bl (segB [114, 101, 115, 116]) = ⟨#[114, 101, 115, 116]⟩ from by kernel_rfl]; exact wo9F
  · rw [show bl (segB [49]) = ⟨#[49]⟩ from by kernel_rfl]; exact wo10F
  · rw [show bl (segB [105, 110]) = ⟨#[105, 110]⟩ from by kernel_rfl]; exact wo11F
open Classical in
noncomputable def okW (s : ByteArray) : Bool := @decide (∃ n ∈ allN, dotsB n = false ∧ s = bl (segB n)) (Classical.propDecidable _)
theorem okW_iff {s : ByteArray} : okW s = true ↔ ∃ n ∈ allN, dotsB n = false ∧ s = bl (segB n) := by unfold okW; exact @decide_eq_true_iff _ (Classical.propDecidable _)
theorem allP_word {n : List UInt8} (hn : n ∈ allN) (hd : dotsB n = false) : ((1 : Int), n) ∈ allP :=
  List.mem_append_left _ (List.mem_append_left _ (List.mem_map.2 ⟨n, List.mem_filter.2 ⟨hn, by rw [hd]; rfl⟩, rfl⟩))
theorem paO_word {n : List UInt8} (hn : n ∈ allN) (hd : dotsB n = false) : paO (bl (segB n)) = (1, n) := paO_bl (p := (1, n)) (allP_word hn hd)
noncomputable def spWo (f : FuncId) (args : Array Value) (h : AH) : Option (Bool × Value × AH) :=
  cond (Nat.beq f 22) (match args with
    | ⟨[.string s]⟩ => some (okW s, .tuple ⟨[pv 1 (bl (paO s).2), .int .i64 0]⟩, h)
    | _ => none) none
theorem spWo_ok : SpOK spWo := by
  intro f args h v h' hs
  unfold spWo at hs
  obtain ⟨hf, hs2⟩ := cond_some hs
  clear hs
  have := Nat.eq_of_beq_eq_true hf
  subst this
  split at hs2
  · injection hs2 with hs
    injection hs with hb hs
    injection hs with hv hh
    subst hv hh
    rename_i s
    obtain ⟨n, hn, hd, rfl⟩ := okW_iff.1 hb
    rw [paO_word hn hd]
    exact ⟨FnOK.pure (wo_all n hn hd) rfl rfl h, Nat.le_refl _⟩
  · cases hs2

/-! Split -/
theorem okP_47 {L : List Pt} (h : okP L) : ∀ p ∈ L, (47 : UInt8) ∉ piece p := by
  intro p hp
  obtain ⟨i, hi, rfl⟩ := List.mem_iff_getElem.1 hp
  have h0 := h.2.2.2 i hi
  have hn := h.2.2.1 L[i] (List.getElem_mem hi)
  have hg : L.getD i (0, []) = L[i] := by simp [List.getD, hi]
  unfold pfI at h0
  rw [hg] at h0
  unfold pfE at h0
  unfold piece
  by_cases c1 : L[i].1 = 1
  · rw [if_pos c1]; exact seg_47 _ hn
  · rw [if_neg c1] at h0 ⊢
    by_cases c2 : L[i].1 < 1 ∨ L[i].1 > 3
    · rw [if_pos c2] at h0; exact absurd h0 (by decide)
    · rw [if_neg c2] at h0
      by_cases c3 : wordB L[i].2 = false
      · rw [if_pos c3] at h0; exact absurd h0 (by decide)
      · have := word_47 _ hn (by simpa using c3)
        split <;> simp [this]
theorem text_body (p : Pt) (l : List Pt) : (text (p :: l)).drop 1 = body (piece p) (l.map piece) := by
  show piece p ++ text l = piece p ++ tail (l.map piece)
  rw [text_tail]
theorem sp_fn {L : List Pt} (h : okP L) : FnOK 0 Tryz.prog 38 ⟨[.string (bl ((text L).drop 1)), .string ⟨#[47]⟩, .int .i64 0, .int .i64 (-1)]⟩ h0 (fun v _ => v = fz ⟨L.map fun p => .string (bl (piece p))⟩) := by
  have hl := text_len (okP_ln h)
  cases L with
  | nil => exact absurd rfl h.1
  | cons p l =>
    have h47 := okP_47 h
    have hb := text_body p l
    have h2 := h.2.1
    have := gs_fn (q := piece p) (r := l.map piece) (h47 p (by simp)) (fun q hq => by
      obtain ⟨x, hx, rfl⟩ := List.mem_map.1 hq
      exact h47 x (by simp [hx])) (by rw [List.length_map]; rw [List.length_cons] at h2; omega) (by rw [← hb, List.length_drop]; omega)
    rw [hb]
    have e : (piece p :: l.map piece).map strV = (p :: l).map fun p => Value.string (bl (piece p)) := by
      rw [← List.map_cons (f := piece), List.map_map]; rfl
    rw [e] at this
    exact this
def OkS (s : ByteArray) (n : Nat) (L : List Pt) : Prop := okP L ∧ L.length = n ∧ s = bl ((text L).drop 1)
open Classical in
noncomputable def okS (s : ByteArray) (n : Nat) : Bool := @decide (∃ L, OkS s n L) (Classical.propDecidable _)
theorem okS_iff {s : ByteArray} {n : Nat} : okS s n = true ↔ ∃ L, OkS s n L := by unfold okS; exact @decide_eq_true_iff _ (Classical.propDecidable _)
open Classical in
noncomputable def lsC (s : ByteArray) (n : Nat) : List Pt := if h : ∃ L, OkS s n L then h.choose else []
theorem lsC_ok {s : ByteArray} {n : Nat} (h : okS s n = true) : OkS s n (lsC s n) := by
  have h := okS_iff.1 h
  unfold lsC
  rw [dif_pos h]
  exact h.choose_spec
noncomputable def pcs (s : ByteArray) (n i : Nat) : ByteArray := bl (piece ((lsC s n).getD i (0, [])))
theorem map_range {α β : Type} (f : α → β) (d : α) : ∀ (L : List α), (List.range L.length).map (fun i => f (L.getD i d)) = L.map f := by
  intro L
  apply List.ext_getElem
  · simp
  · intro i h1 h2
    simp at h1 h2 ⊢
    simp [h1]
noncomputable def spGs (n : Nat) (f : FuncId) (args : Array Value) (h : AH) : Option (Bool × Value × AH) :=
  cond (Nat.beq f 38) (match args with
    | ⟨[.string s, .string c, .int .i64 a, .int .i64 b]⟩ => some (okS s n && (isB c 47 && decide (a = 0) && decide (b = -1)), fz ⟨(List.range n).map fun i => .string (pcs s n i)⟩, h)
    | _ => none) none
theorem spGs_ok (n : Nat) : SpOK (spGs n) := by
  intro f args h v h' hs
  unfold spGs at hs
  obtain ⟨hf, hs2⟩ := cond_some hs
  clear hs
  have := Nat.eq_of_beq_eq_true hf
  subst this
  split at hs2
  · rename_i s c a b
    injection hs2 with hs
    injection hs with hb hs
    injection hs with hv hh
    subst hv hh
    simp only [Bool.and_eq_true, decide_eq_true_eq] at hb
    obtain ⟨b1, ⟨b2, rfl⟩, rfl⟩ := hb
    have b2 := isB_eq (b := 47) b2
    subst b2
    obtain ⟨p1, p2, p3⟩ := lsC_ok b1
    have := sp_fn p1
    rw [← p3, ← map_range (fun p => Value.string (bl (piece p))) (0, []), p2] at this
    exact ⟨FnOK.pure this rfl rfl h, Nat.le_refl _⟩
  · cases hs2

/-! ParseTemplate -/
noncomputable def SF1 (n : Nat) : SC := ⟨idn, spOr (spGs n) (spOr spWo spPo), false, true⟩
theorem SF1_ok (n : Nat) : (SF1 n).cfg.OK Tryz.prog := ((spGs_ok n).or (spWo_ok.or spPo_ok)).cfg
def resO (v : Value) (h : AH) : Option (Nat × Nat × Array Value × TypeId × (Nat × Nat) × Value) :=
  match v with
  | .tuple ⟨[.slice (some ⟨b, 0, none⟩) m c, e]⟩ => match h.get b with
    | some (.cells cs t fr) => some (m, c, cs, t, fr, e)
    | _ => none
  | _ => none
noncomputable def prT (s : ByteArray) (n : Nat) (Q : Option (Nat × Nat × Array Value × TypeId × (Nat × Nat) × Value) → Prop) (X : Prop) : Prop :=
  bif decide ((s.size : Int) > 1000) then Q none else bif decide ((s.size : Int) ≥ 1) then bif decide (1 ≤ (s.size : Int)) then
    bif !((s.extract 0 1).toList == (ByteArray.mk #[47]).toList) then Q none else bif decide (1 ≤ (s.size : Int)) && decide ((s.size : Int) ≤ (s.size : Int)) then
      bif okS (s.extract 1 (s.size : Int).toNat) n && true then X else False else False else False else Q none
noncomputable def ptT (w : ByteArray) (c : Bool) (K : Int → ByteArray → Prop) : Prop :=
  bif decide ((w.size : Int) ≥ 1) then bif decide (1 ≤ (w.size : Int)) then bif (w.extract 0 1).toList == (ByteArray.mk #[123]).toList then
    bif c then K (paO w).1 (bl (paO w).2) else False else bif okW w then K 1 (bl (paO w).2) else False else False else bif okW w then K 1 (bl (paO w).2) else False
theorem somePT : Tryz.f6.body.isSome = true := by kernel_rfl
noncomputable def px1 (s : ByteArray) (Q : Option (Nat × Nat × Array Value × TypeId × (Nat × Nat) × Value) → Prop) : Prop := prT s 1 Q (ptT (pcs (s.extract 1 (s.size : Int).toNat) 1 0) (okPo (pcs (s.extract 1 (s.size : Int).toNat) 1 0) 0 [] true ) fun k0 n0 => Q (some (1, 1, ⟨[.int .i64 k0, .string n0]⟩, 40, (0, 0), .int .i64 0)))
theorem pt1 (s : ByteArray) (Q : Option (Nat × Nat × Array Value × TypeId × (Nat × Nat) × Value) → Prop) : ffn Tryz.prog (SF1 1) [] 3000 [] Tryz.f6 [.string s] h0 (fun v h => Q (resO v h)) = px1 s Q := by kernel_rfl
noncomputable def px2 (s : ByteArray) (Q : Option (Nat × Nat × Array Value × TypeId × (Nat × Nat) × Value) → Prop) : Prop := prT s 2 Q (ptT (pcs (s.extract 1 (s.size : Int).toNat) 2 0) (okPo (pcs (s.extract 1 (s.size : Int).toNat) 2 0) 0 [] false ) fun k0 n0 => ptT (pcs (s.extract 1 (s.size : Int).toNat) 2 1) (okPo (pcs (s.extract 1 (s.size : Int).toNat) 2 1) 1 [.int .i64 k0, .string n0] true && true && true) fun k1 n1 => Q (some (2, 2, ⟨[.int .i64 k0, .string n0, .int .i64 k1, .string n1]⟩, 40, (0, 0), .int .i64 0)))
theorem pt2 (s : ByteArray) (Q : Option (Nat × Nat × Array Value × TypeId × (Nat × Nat) × Value) → Prop) : ffn Tryz.prog (SF1 2) [] 3000 [] Tryz.f6 [.string s] h0 (fun v h => Q (resO v h)) = px2 s Q := by kernel_rfl
noncomputable def px3 (s : ByteArray) (Q : Option (Nat × Nat × Array Value × TypeId × (Nat × Nat) × Value) → Prop) : Prop := prT s 3 Q (ptT (pcs (s.extract 1 (s.size : Int).toNat) 3 0) (okPo (pcs (s.extract 1 (s.size : Int).toNat) 3 0) 0 [] false ) fun k0 n0 => ptT (pcs (s.extract 1 (s.size : Int).toNat) 3 1) (okPo (pcs (s.extract 1 (s.size : Int).toNat) 3 1) 1 [.int .i64 k0, .string n0] false && true && true) fun k1 n1 => ptT (pcs (s.extract 1 (s.size : Int).toNat) 3 2) (okPo (pcs (s.extract 1 (s.size : Int).toNat) 3 2) 2 [.int .i64 k0, .string n0, .int .i64 k1, .string n1] true && true && true) fun k2 n2 => Q (some (3, 3, ⟨[.int .i64 k0, .string n0, .int .i64 k1, .string n1, .int .i64 k2, .string n2]⟩, 40, (0, 0), .int .i64 0)))
theorem pt3 (s : ByteArray) (Q : Option (Nat × Nat × Array Value × TypeId × (Nat × Nat) × Value) → Prop) : ffn Tryz.prog (SF1 3) [] 3000 [] Tryz.f6 [.string s] h0 (fun v h => Q (resO v h)) = px3 s Q := by kernel_rfl
theorem pf0 {L : List Pt} (h : okP L) {i : Nat} (hi : i < L.length) {p : Pt} (hp : L.getD i (0, []) = p) : p.2 ∈ allN ∧ ((p.1 = 1 ∧ dotsB p.2 = false) ∨ ((p.1 = 2 ∨ p.1 = 3) ∧ wordB p.2 = true ∧ hasP (L.take i) p.2 = false ∧ (p.1 = 2 ∨ (i + 1 == L.length) = true))) := by
  have h0 := h.2.2.2 i hi
  have hg : L.getD i (0, []) = L[i] := by simp [List.getD, hi]
  have hn : p.2 ∈ allN := by rw [← hp, hg]; exact h.2.2.1 _ (List.getElem_mem hi)
  refine ⟨hn, ?_⟩
  unfold pfI at h0
  rw [hp] at h0
  unfold pfE at h0
  by_cases c2 : p.1 < 1 ∨ p.1 > 3
  · rw [if_pos c2] at h0; exact absurd h0 (by decide)
  rw [if_neg c2] at h0
  by_cases c1 : p.1 = 1
  · rw [if_pos c1] at h0
    refine .inl ⟨c1, ?_⟩
    cases hd : dotsB p.2 with
    | false => rfl
    | true => rw [hd] at h0; exact absurd h0 (by decide)
  rw [if_neg c1] at h0
  refine .inr ⟨by omega, ?_⟩
  cases hw : wordB p.2 with
  | false => rw [hw, if_pos rfl] at h0; exact absurd h0 (by decide)
  | true =>
    rw [hw, if_neg (by simp)] at h0
    refine ⟨rfl, ?_⟩
    cases hh : hasP (L.take i) p.2 with
    | true => rw [hh, if_pos rfl] at h0; exact absurd h0 (by decide)
    | false =>
      rw [hh, if_neg (by simp)] at h0
      refine ⟨rfl, ?_⟩
      by_cases c3 : p.1 = 3
      · rw [if_pos c3] at h0
        cases hl : (i + 1 == L.length) with
        | true => exact .inr rfl
        | false => rw [hl] at h0; exact absurd h0 (by decide)
      · exact .inl (by omega)
theorem okPo_mk {L : List Pt} {i : Nat} {p : Pt} (q : p.1 = 2 ∨ p.1 = 3) (h : okP L) (hp : L.getD i (0, []) = p) (hi : i < L.length) {w : ByteArray} {cs : List Value} {last : Bool} (hw : w = bl (piece p)) (hcs : cs = (L.take i).flatMap ptC) (hl : last = (i + 1 == L.length)) : okPo w i cs last = true := by
  obtain ⟨_, c | ⟨_, c2, c3, c4⟩⟩ := pf0 h hi hp
  · rcases q with q | q <;> exact absurd (q.symm.trans c.1) (by decide)
  · have h2 := h.2.1
    exact okPo_iff.2 ⟨p, L.take i, q, c2, by rw [List.length_take]; omega, fun b hb => h.2.2.1 b (List.mem_of_mem_take hb), c3, by rw [hl]; exact c4, hw, by rw [List.length_take]; omega, hcs⟩
theorem and3 {x : Bool} (h : x = true) : (x && true && true) = true := by rw [h]; rfl
theorem seg_no : ∀ n ∈ allN, segB n = [] ∨ (1 ≤ (segB n).length ∧ ((bl (segB n)).extract 0 1).toList != (ByteArray.mk #[123]).toList) := by decide +kernel
theorem pt_ok {L : List Pt} {i : Nat} {p : Pt} (h : okP L) (hi : i < L.length) (hp : L.getD i (0, []) = p) {w : ByteArray} (hw : w = bl (piece p)) {c : Bool} (hc : p.1 = 2 ∨ p.1 = 3 → c = true) {K : Int → ByteArray → Prop} (hK : K p.1 (bl p.2)) : ptT w c K := by
  obtain ⟨hn, ⟨c1, c2⟩ | ⟨c1, c2, c3, c4⟩⟩ := pf0 h hi hp
  · have e : piece p = segB p.2 := if_pos c1
    rw [e] at hw
    rw [c1] at hK
    subst hw
    unfold ptT
    have ho : okW (bl (segB p.2)) = true := okW_iff.2 ⟨_, hn, c2, rfl⟩
    rw [paO_word hn c2]
    rcases seg_no _ hn with q | ⟨q1, q2⟩
    · refine pick_f (decide_eq_false ?_) (need_mk ho hK)
      rw [bl_size, q]; decide
    · refine pick_t (decide_eq_true ?_) (need_mk (decide_eq_true ?_) (pick_f ?_ (need_mk ho hK)))
      · rw [bl_size]; omega
      · rw [bl_size]; omega
      · rw [bne_iff_ne] at q2; exact beq_eq_false_iff_ne.2 q2
  · have e : ∃ l, piece p = 123 :: l := by
      unfold piece
      rw [if_neg (by omega)]
      split <;> exact ⟨_, rfl⟩
    obtain ⟨l, e⟩ := e
    have hq := paO_bl (allP_par c1 c2)
    subst hw
    unfold ptT
    rw [hq, hc c1]
    refine pick_t (decide_eq_true ?_) (need_mk (decide_eq_true ?_) (pick_t ?_ (need_mk rfl hK)))
    · rw [bl_size, e, List.length_cons]; omega
    · rw [bl_size, e, List.length_cons]; omega
    · rw [bl_cut _ _ _ (by rw [e, List.length_cons]; omega), e]
      exact (by decide +kernel : ((bl [123]).toList == (ByteArray.mk #[123]).toList) = true)
theorem text_47 {L : List Pt} (h : L ≠ []) : text L = 47 :: (text L).drop 1 := by
  cases L with
  | nil => exact absurd rfl h
  | cons p l => rfl
theorem cut1 (l : List UInt8) : (bl l).extract 1 ((bl l).size : Int).toNat = bl (l.drop 1) := by
  show (bl l).extract 1 (bl l).size = _
  rw [bl_size, bl_cut _ _ _ (Nat.le_refl _), List.take_length]
theorem pr_ok {L : List Pt} (h : okP L) {n : Nat} (hn : L.length = n) {Q : Option (Nat × Nat × Array Value × TypeId × (Nat × Nat) × Value) → Prop} {X : Prop} (hX : X) : prT (bl (text L)) n Q X := by
  have hl := text_len (okP_ln h)
  have h47 := text_47 h.1
  have h1 : 1 ≤ (text L).length := by rw [h47]; simp
  unfold prT
  rw [bl_size]
  refine pick_f (decide_eq_false (by omega)) (pick_t (decide_eq_true (by omega)) (need_mk (decide_eq_true (by omega)) (pick_f ?_ (need_mk (by simp; omega) (need_mk ?_ hX)))))
  · rw [bl_cut _ _ _ h1, h47]
    exact (by decide +kernel : (!((bl [47]).toList == (ByteArray.mk #[47]).toList)) = false)
  · have := cut1 (text L)
    rw [bl_size] at this
    rw [this, okS_iff.2 ⟨L, h, hn, rfl⟩]; rfl
theorem px1_ok {p0 : Pt} (hL : okP [p0]) {s : ByteArray} (hs : s = bl (text [p0])) (hc : lsC (bl ((text [p0]).drop 1)) 1 = [p0]) (Q : Option (Nat × Nat × Array Value × TypeId × (Nat × Nat) × Value) → Prop) (hQ : Q (some (1, 1, ⟨List.flatMap ptC [p0]⟩, 40, (0, 0), .int .i64 0))) : px1 s Q := by
  subst hs
  refine pr_ok hL rfl ?_
  rw [cut1]
  have w0 : pcs (bl ((text [p0]).drop 1)) 1 0 = bl (piece p0) := by unfold pcs; rw [hc]; rfl
  refine pt_ok (L := [p0]) (i := 0) hL (by simp) rfl w0 (fun q => okPo_mk q hL (i := 0) rfl (by simp) w0 rfl rfl) ?_
  exact hQ
theorem px2_ok {p0 p1 : Pt} (hL : okP [p0, p1]) {s : ByteArray} (hs : s = bl (text [p0, p1])) (hc : lsC (bl ((text [p0, p1]).drop 1)) 2 = [p0, p1]) (Q : Option (Nat × Nat × Array Value × TypeId × (Nat × Nat) × Value) → Prop) (hQ : Q (some (2, 2, ⟨List.flatMap ptC [p0, p1]⟩, 40, (0, 0), .int .i64 0))) : px2 s Q := by
  subst hs
  refine pr_ok hL rfl ?_
  rw [cut1]
  have w0 : pcs (bl ((text [p0, p1]).drop 1)) 2 0 = bl (piece p0) := by unfold pcs; rw [hc]; rfl
  refine pt_ok (L := [p0, p1]) (i := 0) hL (by simp) rfl w0 (fun q => okPo_mk q hL (i := 0) rfl (by simp) w0 rfl rfl) ?_
  have w1 : pcs (bl ((text [p0, p1]).drop 1)) 2 1 = bl (piece p1) := by unfold pcs; rw [hc]; rfl
  refine pt_ok (L := [p0, p1]) (i := 1) hL (by simp) rfl w1 (fun q => and3 (okPo_mk q hL (i := 1) rfl (by simp) w1 rfl rfl)) ?_
  exact hQ
theorem px3_ok {p0 p1 p2 : Pt} (hL : okP [p0, p1, p2]) {s : ByteArray} (hs : s = bl (text [p0, p1, p2])) (hc : lsC (bl ((text [p0, p1, p2]).drop 1)) 3 = [p0, p1, p2]) (Q : Option (Nat × Nat × Array Value × TypeId × (Nat × Nat) × Value) → Prop) (hQ : Q (some (3, 3, ⟨List.flatMap ptC [p0, p1, p2]⟩, 40, (0, 0), .int .i64 0))) : px3 s Q := by
  subst hs
  refine pr_ok hL rfl ?_
  rw [cut1]
  have w0 : pcs (bl ((text [p0, p1, p2]).drop 1)) 3 0 = bl (piece p0) := by unfold pcs; rw [hc]; rfl
  refine pt_ok (L := [p0, p1, p2]) (i := 0) hL (by simp) rfl w0 (fun q => okPo_mk q hL (i := 0) rfl (by simp) w0 rfl rfl) ?_
  have w1 : pcs (bl ((text [p0, p1, p2]).drop 1)) 3 1 = bl (piece p1) := by unfold pcs; rw [hc]; rfl
  refine pt_ok (L := [p0, p1, p2]) (i := 1) hL (by simp) rfl w1 (fun q => and3 (okPo_mk q hL (i := 1) rfl (by simp) w1 rfl rfl)) ?_
  have w2 : pcs (bl ((text [p0, p1, p2]).drop 1)) 3 2 = bl (piece p2) := by unfold pcs; rw [hc]; rfl
  refine pt_ok (L := [p0, p1, p2]) (i := 2) hL (by simp) rfl w2 (fun q => and3 (okPo_mk q hL (i := 2) rfl (by simp) w2 rfl rfl)) ?_
  exact hQ
theorem flat_len (L : List Pt) : (L.flatMap ptC).length = L.length * 2 := by
  induction L with
  | nil => rfl
  | cons p l ih => rw [List.flatMap_cons, List.length_append, ih, List.length_cons]; show 2 + _ = _; omega
theorem freeze_cells (L : List Pt) {i j : Nat} {x v : Value} (hx : (Array.mk (L.map ptV))[i]? = some x) (hv : x.cells[j]? = some v) : (Array.mk (L.flatMap ptC))[i * 2 + j]? = some v := by
  have hx2 : (L.map ptV)[i]? = some x := by simpa using hx
  clear hx
  rw [List.getElem?_map] at hx2
  obtain ⟨q, hq, rfl⟩ := Option.map_eq_some_iff.1 hx2
  clear hx2
  have hv : (Array.mk (ptC q))[j]? = some v := hv
  rw [List.getElem?_toArray] at hv ⊢
  have hj : j < 2 := by
    obtain ⟨h, _⟩ := List.getElem?_eq_some_iff.1 hv
    exact h
  induction L generalizing i with
  | nil => simp at hq
  | cons p l ih =>
    cases i with
    | zero =>
      simp only [List.getElem?_cons_zero, Option.some.injEq] at hq
      subst hq
      rw [List.flatMap_cons, List.getElem?_append_left (by show 0 * 2 + j < 2; omega)]
      rw [Nat.zero_mul, Nat.zero_add]
      exact hv
    | succ i =>
      rw [List.getElem?_cons_succ] at hq
      rw [List.flatMap_cons, List.getElem?_append_right (by show 2 ≤ (i + 1) * 2 + j; omega)]
      have := ih hq
      rw [show (i + 1) * 2 + j - (ptC p).length = i * 2 + j by show (i + 1) * 2 + j - 2 = _; omega]
      exact this
theorem freezeP {P : Program} {h : AH} {b : Nat} {t : TypeId} {fr : Nat × Nat} (L : List Pt) {m : Nat} (e : Value) (hm : L.length = m) (hb : h.get b = some (.cells ⟨L.flatMap ptC⟩ t fr)) :
    Weak 0 P #[.slice (some ⟨b, 0, none⟩) m m, e] h #[fz ⟨L.map ptV⟩, e] (h.del b) := by
  have hlen := flat_len L
  refine Weak.freeze (n := m) (cap := m) b 2 ⟨L.map ptV⟩ hb (fun v hv => p1_ptC L v hv) (by simpa using hm) (Nat.le_refl _) (by show m * 2 ≤ (L.flatMap ptC).length; omega) ?_ (fun i j x v => freeze_cells L) rfl ?_
  · intro i x hx
    have hx : (L.map ptV)[i]? = some x := by simpa using hx
    rw [List.getElem?_map] at hx
    obtain ⟨q, _, rfl⟩ := Option.map_eq_some_iff.1 hx
    rfl
  · intro i
    match i with
    | 0 => exact .inr ⟨rfl, rfl⟩
    | i + 1 => exact .inl (by simp)
theorem resO_some {v : Value} {h : AH} {m c : Nat} {cs : Array Value} {t : TypeId} {fr : Nat × Nat} {e : Value} (hr : resO v h = some (m, c, cs, t, fr, e)) : ∃ b, v = .tuple ⟨[.slice (some ⟨b, 0, none⟩) m c, e]⟩ ∧ h.get b = some (.cells cs t fr) := by
  unfold resO at hr
  split at hr
  · rename_i b m' c' e'
    split at hr
    · rename_i cs' t' fr' hg
      simp only [Option.some.injEq, Prod.mk.injEq] at hr
      obtain ⟨rfl, rfl, rfl, rfl, rfl, rfl⟩ := hr
      exact ⟨b, rfl, hg⟩
    · cases hr
  · cases hr
/-- What ParseTemplate hands back. -/
def PrOK (t : ByteArray) (L : List Pt) : Prop := okP L ∧ t = bl (text L) ∧ FnOK 0 Tryz.prog 6 ⟨[.string t]⟩ h0 (fun v _ => v = .tuple ⟨[fz ⟨L.map ptV⟩, .int .i64 0]⟩)
theorem pr_fin {t : ByteArray} {L : List Pt} {n : Nat} (hn : L.length = n) (hF : FnOK 0 Tryz.prog 6 ⟨[.string t]⟩ h0 (fun v h => resO v h = some (n, n, ⟨L.flatMap ptC⟩, 40, (0, 0), .int .i64 0))) : FnOK 0 Tryz.prog 6 ⟨[.string t]⟩ h0 (fun v _ => v = .tuple ⟨[fz ⟨L.map ptV⟩, .int .i64 0]⟩) := by
  refine FnOK.weakT (hF.mono ?_)
  intro v h hr
  obtain ⟨b, rfl, hg⟩ := resO_some hr
  exact ⟨_, _, _, rfl, freezeP L _ hn hg, rfl⟩
theorem pr_ex {M : List Pt} (hM : okP M) : ∃ L, PrOK (bl (text M)) L := by
  have hs : okS (bl ((text M).drop 1)) M.length = true := okS_iff.2 ⟨M, hM, rfl, rfl⟩
  obtain ⟨a1, a2, a3⟩ := lsC_ok hs
  generalize hL : lsC (bl ((text M).drop 1)) M.length = L at a1 a2 a3
  have ht : bl (text M) = bl (text L) := by
    rw [text_47 hM.1, text_47 a1.1]
    have := congrArg (fun s : ByteArray => s.data.toList) a3
    simp only [bl_list] at this
    rw [this]
  have hc : lsC (bl ((text L).drop 1)) L.length = L := by rw [← a3, a2, hL]
  refine ⟨L, a1, ht, ?_⟩
  rw [ht]
  clear hs hL a2 a3 ht
  match L, a1, hc with
  | [], a1, _ => exact absurd rfl a1.1
  | [p0], a1, hc => exact pr_fin (n := 1) rfl (FnOK.ftree (SF1_ok 1) mixed Tryz.func6 somePT (pt1 _ (fun o => o = some (1, 1, ⟨[p0].flatMap ptC⟩, 40, (0, 0), .int .i64 0))) (px1_ok a1 rfl hc _ rfl))
  | [p0, p1], a1, hc => exact pr_fin (n := 2) rfl (FnOK.ftree (SF1_ok 2) mixed Tryz.func6 somePT (pt2 _ (fun o => o = some (2, 2, ⟨[p0, p1].flatMap ptC⟩, 40, (0, 0), .int .i64 0))) (px2_ok a1 rfl hc _ rfl))
  | [p0, p1, p2], a1, hc => exact pr_fin (n := 3) rfl (FnOK.ftree (SF1_ok 3) mixed Tryz.func6 somePT (pt3 _ (fun o => o = some (3, 3, ⟨[p0, p1, p2].flatMap ptC⟩, 40, (0, 0), .int .i64 0))) (px3_ok a1 rfl hc _ rfl))
  | _ :: _ :: _ :: _ :: _, a1, _ => exact absurd a1.2.1 (by simp)
open Classical in
noncomputable def okTx (t : ByteArray) : Bool := @decide (∃ M, okP M ∧ t = bl (text M)) (Classical.propDecidable _)
theorem okTx_iff {t : ByteArray} : okTx t = true ↔ ∃ M, okP M ∧ t = bl (text M) := by unfold okTx; exact @decide_eq_true_iff _ (Classical.propDecidable _)
open Classical in
noncomputable def prC (t : ByteArray) : List Pt := if h : ∃ L, PrOK t L then h.choose else []
theorem prC_ok {t : ByteArray} (h : okTx t = true) : PrOK t (prC t) := by
  obtain ⟨M, hM, rfl⟩ := okTx_iff.1 h
  have h := pr_ex hM
  unfold prC
  rw [dif_pos h]
  exact h.choose_spec
noncomputable def spPt (f : FuncId) (args : Array Value) (h : AH) : Option (Bool × Value × AH) :=
  cond (Nat.beq f 6) (match args with
    | ⟨[.string t]⟩ => some (okTx t, .tuple ⟨[fz ⟨(prC t).map ptV⟩, .int .i64 0]⟩, h)
    | _ => none) none
theorem spPt_ok : SpOK spPt := by
  intro f args h v h' hs
  unfold spPt at hs
  obtain ⟨hf, hs2⟩ := cond_some hs
  clear hs
  have := Nat.eq_of_beq_eq_true hf
  subst this
  split at hs2
  · injection hs2 with hs
    injection hs with hb hs
    injection hs with hv hh
    subst hv hh
    rename_i t
    exact ⟨FnOK.pure (prC_ok hb).2.2 rfl rfl h, Nat.le_refl _⟩
  · cases hs2
end Go.Proofs.YtklcapmmogediaaGreatDoor
