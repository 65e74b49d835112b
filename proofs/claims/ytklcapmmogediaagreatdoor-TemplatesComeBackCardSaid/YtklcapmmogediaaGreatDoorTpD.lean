/-
  Templates: TemplateText as a specification.
-/
import Derived.Test.YtklcapmmogediaaGreatDoorTpC
namespace Go.Proofs.YtklcapmmogediaaGreatDoor
open Go.Ev Go.RowKit TplLaw

/-- Parts with which nothing is wrong. -/
def okP (L : List Pt) : Prop := L ≠ [] ∧ L.length ≤ 3 ∧ (∀ p ∈ L, p.2 ∈ allN) ∧ ∀ i, i < L.length → pfI L i = 0
theorem okP_ln {L : List Pt} (h : okP L) : Ln L := ⟨h.2.1, h.2.2.1⟩
theorem piece_len {p : Pt} (h : p.2 ∈ allN) : (piece p).length ≤ 30 := by
  obtain ⟨a, b⟩ := seg_len _ h
  unfold piece
  split
  · omega
  · split <;> simp <;> omega
theorem pc_len {p : Pt} (h : p.2 ∈ allN) : (47 :: piece p).length ≤ 100 := by have := piece_len h; simp; omega
theorem len1 {p : Pt} (h : p.2 ∈ allN) : (47 :: piece p).length ≤ 200 := by have := piece_len h; simp; omega
theorem len2 {p q : Pt} (h : p.2 ∈ allN) (h2 : q.2 ∈ allN) : ((47 :: piece p) ++ (47 :: piece q)).length ≤ 200 := by have := piece_len h; have := piece_len h2; simp; omega
theorem text_len {L : List Pt} (h : Ln L) : (text L).length ≤ 100 := by
  obtain ⟨h1, h2⟩ := h
  have : ∀ L : List Pt, (∀ p ∈ L, p.2 ∈ allN) → (text L).length ≤ 31 * L.length := by
    intro L
    induction L with
    | nil => intro _; exact Nat.le_refl _
    | cons p l ih =>
      intro h
      have h3 := ih fun q hq => h q (by simp [hq])
      have h4 := piece_len (h p (by simp))
      have e : text (p :: l) = (47 :: piece p) ++ text l := rfl
      rw [e]
      simp
      omega
  have := this L h2
  omega
theorem oneB (l : List UInt8) : (l.map byV).all oneCell = true := by
  rw [List.all_eq_true]
  intro v hv
  obtain ⟨b, _, rfl⟩ := List.mem_map.1 hv
  rfl
theorem byteB (l : List UInt8) : (l.map byV).all isByte = true := by
  rw [List.all_eq_true]
  intro v hv
  obtain ⟨b, _, rfl⟩ := List.mem_map.1 hv
  unfold byV isByte
  have := b.toNat_lt
  simp
  omega
theorem toB (l : List UInt8) : (l.map byV).map toByte = l := by
  rw [List.map_map]
  have : toByte ∘ byV = id := by
    funext b
    show UInt8.ofNat ((b.toNat : Int).toNat) = b
    simp
  rw [this, List.map_id]
theorem wr0_ok {l : List UInt8} {K : List Value → Nat → Prop} (h0 : l ≠ []) (h1 : l.length ≤ 100) (hK : K (l.map byV) l.length) : wr0 (bl l) K := by
  unfold wr0
  have hp : 0 < l.length := List.length_pos_iff.2 h0
  rw [bl_size, bl_list]
  refine pick_f ?_ (need_mk ?_ hK)
  · rw [Bool.eq_false_iff, ne_eq, Nat.ble_eq]; omega
  · rw [Bool.and_eq_true, Nat.ble_eq, Nat.ble_eq]; omega
theorem wrT_ok {b l : List UInt8} {K : List Value → Nat → Prop} (h0 : l ≠ []) (h1 : l.length ≤ 100) (h2 : b.length ≤ 200) (hK : K ((b ++ l).map byV) (b ++ l).length) : wrT (b.map byV) b.length (bl l) K := by
  unfold wrT
  have hp : 0 < l.length := List.length_pos_iff.2 h0
  rw [bl_size, bl_list]
  refine pick_f ?_ (need_mk ?_ (need_mk ?_ ?_))
  · rw [Bool.eq_false_iff, ne_eq, Nat.ble_eq]; omega
  · rw [Bool.and_eq_true, Nat.ble_eq, Nat.ble_eq]; omega
  · rw [oneB]
    have : (0 + b.length * 1).ble (Array.mk (b.map byV)).size = true := by
      rw [Nat.ble_eq]
      show 0 + b.length * 1 ≤ (b.map byV).length
      rw [List.length_map]; omega
    rw [this]; rfl
  · have e : List.take (b.length * 1) (List.drop 0 (Array.mk (b.map byV)).toList) = b.map byV := by
      rw [List.drop_zero, Nat.mul_one]
      exact List.take_of_length_le (by show (b.map byV).length ≤ _; rw [List.length_map]; exact Nat.le_refl _)
    rw [e, ← List.map_append, ← List.length_append]
    exact hK
theorem enT_ok {b : List UInt8} {Q : Value → Prop} (h0 : b ≠ []) (h1 : b.length ≤ 100) (hQ : Q (.tuple ⟨[.string (bl b), .int .i64 0]⟩)) : enT (b.map byV) b.length Q := by
  unfold enT
  have hp : 0 < b.length := List.length_pos_iff.2 h0
  have e : List.take (b.length : Int).toNat (List.drop 0 (Array.mk (b.map byV)).toList) = b.map byV := by
    rw [List.drop_zero]
    exact List.take_of_length_le (by show (b.map byV).length ≤ _; rw [List.length_map]; exact Nat.le_refl _)
  rw [e, byteB, toB]
  refine pick_f (decide_eq_false (by omega)) (need_mk (Nat.ble_eq_true_of_le (by omega)) (need_mk ?_ hQ))
  have : (0 + (b.length : Int).toNat).ble (Array.mk (b.map byV)).size = true := by
    rw [Nat.ble_eq]
    show 0 + b.length ≤ (b.map byV).length
    rw [List.length_map]; omega
  rw [this]
  simp
  omega
theorem pcT_ok {p : Pt} (hn : p.2 ∈ allN) {K : ByteArray → Prop} (hK : K (bl (47 :: piece p))) : pcT p.1 (bl p.2) K := by
  unfold pcT
  obtain ⟨l1, l2⟩ := seg_len _ hn
  by_cases c1 : p.1 = 1
  · have e : piece p = segB p.2 := if_pos c1
    rw [e] at hK
    have e2 : sgB (bl p.2) = bl (segB p.2) := by unfold sgB; rw [bl_list]
    rw [e2, bl_size]
    refine pick_t (by rw [c1]; rfl) (need_mk (okN_bl hn) (need_mk (Nat.ble_eq_true_of_le (by omega)) ?_))
    rw [show (⟨#[47]⟩ : ByteArray) = bl [47] from rfl, bl_app]
    exact hK
  · refine pick_f (beq_eq_false_iff_ne.2 c1) ?_
    rw [show (⟨#[47, 123]⟩ : ByteArray) = bl [47, 123] from rfl, bl_app, bl_size, bl_size]
    have hb : Nat.ble (2 + p.2.length) 1000000 = true := Nat.ble_eq_true_of_le (by omega)
    have hb2 : ∀ k, k ≤ 2 → Nat.ble (([47, 123] ++ p.2).length + k) 1000000 = true := fun k hk => Nat.ble_eq_true_of_le (by rw [List.length_append]; simp; omega)
    by_cases c2 : p.1 = 2
    · have e : piece p = 123 :: (p.2 ++ [125]) := by unfold piece; rw [if_neg c1, if_pos c2]
      rw [e] at hK
      refine pick_t (by rw [c2]; rfl) (need_mk hb (need_mk (hb2 1 (by omega)) ?_))
      rw [show (⟨#[125]⟩ : ByteArray) = bl [125] from rfl, bl_app]
      exact hK
    · have e : piece p = 123 :: (p.2 ++ [42, 125]) := by unfold piece; rw [if_neg c1, if_neg c2]
      rw [e] at hK
      refine pick_f (beq_eq_false_iff_ne.2 c2) (need_mk hb (need_mk (hb2 2 (by omega)) ?_))
      rw [show (⟨#[42, 125]⟩ : ByteArray) = bl [42, 125] from rfl, bl_app]
      exact hK
theorem okV_map {L : List Pt} (h : Ln L) : okV (L.map ptV) = true := okV_iff.2 ⟨L, h, rfl⟩
theorem cond_st {L : List Pt} (h : Ln L) {i : Nat} (hi : i < L.length) : (okV (L.map ptV) && decide (0 ≤ (i : Int)) && decide ((i : Int) < ((L.map ptV).length : Int))) = true := by
  rw [okV_map h, List.length_map]; simp; omega
theorem pfV_map (L : List Pt) (i : Nat) : pfV (L.map ptV) (i : Int) = pfI L i := by unfold pfV; rw [unP_map]; rfl
theorem st_ok0 {L : List Pt} {i : Nat} (h : Ln L) (hi : i < L.length) (h0 : pfI L i = 0) {Q : Value → Prop} {K : ByteArray → Prop} (hK : K (bl (47 :: piece (L.getD i (0, []))))) :
    stT (L.map ptV) (i : Int) (L.getD i (0, [])).1 (bl (L.getD i (0, [])).2) Q K := by
  refine ⟨rfl, need_mk (cond_st h hi) ?_⟩
  rw [pfV_map, h0]
  have hm : L.getD i (0, []) ∈ L := by
    have : L.getD i (0, []) = L[i] := by simp [List.getD, hi]
    rw [this]; exact List.getElem_mem hi
  exact pick_f rfl (pcT_ok (h.2 _ hm) hK)
theorem st_ok {L : List Pt} {i : Nat} (h : okP L) (hi : i < L.length) {Q : Value → Prop} {K : ByteArray → Prop} (hK : K (bl (47 :: piece (L.getD i (0, []))))) :
    stT (L.map ptV) (i : Int) (L.getD i (0, [])).1 (bl (L.getD i (0, [])).2) Q K := st_ok0 (okP_ln h) hi (h.2.2.2 i hi) hK
theorem st_bad {L : List Pt} {i : Nat} {k : Int} {s : ByteArray} (h : Ln L) (hi : i < L.length) (h0 : pfI L i ≠ 0) {Q : Value → Prop} {K : ByteArray → Prop} (hQ : Q (.tuple ⟨[.string ⟨#[]⟩, .int .i64 (pfI L i)]⟩)) :
    stT (L.map ptV) (i : Int) k s Q K := by
  refine ⟨rfl, need_mk (cond_st h hi) ?_⟩
  rw [pfV_map]
  exact pick_t (bne_iff_ne.2 h0) hQ
theorem good1 {p0 : Pt} (h : okP [p0]) (Q : Value → Prop) (hQ : Q (.tuple ⟨[.string (bl (text [p0])), .int .i64 0]⟩)) : tx1 p0.1 (bl p0.2) Q := by
  have hl := text_len (okP_ln h)
  refine st_ok (L := [p0]) (i := 0) h (by simp) ?_
  refine wr0_ok (l := 47 :: piece p0) (by simp) (pc_len (h.2.2.1 p0 (by simp))) ?_
  have e : text [p0] = (47 :: piece p0) := by simp [text]
  rw [e] at hQ hl
  exact enT_ok (b := (47 :: piece p0)) (by simp) hl hQ
theorem good2 {p0 p1 : Pt} (h : okP [p0, p1]) (Q : Value → Prop) (hQ : Q (.tuple ⟨[.string (bl (text [p0, p1])), .int .i64 0]⟩)) : tx2 p0.1 (bl p0.2) p1.1 (bl p1.2) Q := by
  have hl := text_len (okP_ln h)
  refine st_ok (L := [p0, p1]) (i := 0) h (by simp) ?_
  refine wr0_ok (l := 47 :: piece p0) (by simp) (pc_len (h.2.2.1 p0 (by simp))) ?_
  refine st_ok (L := [p0, p1]) (i := 1) h (by simp) ?_
  refine wrT_ok (b := (47 :: piece p0)) (l := 47 :: piece p1) (by simp) (pc_len (h.2.2.1 p1 (by simp))) (by have := len1 (h.2.2.1 p0 (by simp)) ; exact this) ?_
  have e : text [p0, p1] = (47 :: piece p0) ++ (47 :: piece p1) := by simp [text]
  rw [e] at hQ hl
  exact enT_ok (b := (47 :: piece p0) ++ (47 :: piece p1)) (by simp) hl hQ
theorem good3 {p0 p1 p2 : Pt} (h : okP [p0, p1, p2]) (Q : Value → Prop) (hQ : Q (.tuple ⟨[.string (bl (text [p0, p1, p2])), .int .i64 0]⟩)) : tx3 p0.1 (bl p0.2) p1.1 (bl p1.2) p2.1 (bl p2.2) Q := by
  have hl := text_len (okP_ln h)
  refine st_ok (L := [p0, p1, p2]) (i := 0) h (by simp) ?_
  refine wr0_ok (l := 47 :: piece p0) (by simp) (pc_len (h.2.2.1 p0 (by simp))) ?_
  refine st_ok (L := [p0, p1, p2]) (i := 1) h (by simp) ?_
  refine wrT_ok (b := (47 :: piece p0)) (l := 47 :: piece p1) (by simp) (pc_len (h.2.2.1 p1 (by simp))) (by have := len1 (h.2.2.1 p0 (by simp)) ; exact this) ?_
  refine st_ok (L := [p0, p1, p2]) (i := 2) h (by simp) ?_
  refine wrT_ok (b := (47 :: piece p0) ++ (47 :: piece p1)) (l := 47 :: piece p2) (by simp) (pc_len (h.2.2.1 p2 (by simp))) (by have := len2 (h.2.2.1 p0 (by simp)) (h.2.2.1 p1 (by simp)); exact this) ?_
  have e : text [p0, p1, p2] = (47 :: piece p0) ++ (47 :: piece p1) ++ (47 :: piece p2) := by simp [text]
  rw [e] at hQ hl
  exact enT_ok (b := (47 :: piece p0) ++ (47 :: piece p1) ++ (47 :: piece p2)) (by simp) hl hQ
theorem bad1 {p0 : Pt} (hn : Ln [p0]) (h : ¬ okP [p0]) : ∃ e : Int, e ≠ 0 ∧ ∀ Q : Value → Prop, Q (.tuple ⟨[.string ⟨#[]⟩, .int .i64 e]⟩) → tx1 p0.1 (bl p0.2) Q := by
  by_cases c0 : pfI [p0] 0 = 0
  case neg =>
    refine ⟨_, c0, fun Q hQ => ?_⟩
    exact st_bad (L := [p0]) (i := 0) hn (by simp) c0 hQ
  exact absurd ⟨by simp, hn.1, hn.2, fun i hi => by
    match i, hi with
    | 0, _ => exact c0
    | i + 1, hi => exact absurd hi (show ¬ (i + 1 < 1) by omega)⟩ h
theorem bad2 {p0 p1 : Pt} (hn : Ln [p0, p1]) (h : ¬ okP [p0, p1]) : ∃ e : Int, e ≠ 0 ∧ ∀ Q : Value → Prop, Q (.tuple ⟨[.string ⟨#[]⟩, .int .i64 e]⟩) → tx2 p0.1 (bl p0.2) p1.1 (bl p1.2) Q := by
  by_cases c0 : pfI [p0, p1] 0 = 0
  case neg =>
    refine ⟨_, c0, fun Q hQ => ?_⟩
    exact st_bad (L := [p0, p1]) (i := 0) hn (by simp) c0 hQ
  by_cases c1 : pfI [p0, p1] 1 = 0
  case neg =>
    refine ⟨_, c1, fun Q hQ => ?_⟩
    refine st_ok0 (L := [p0, p1]) (i := 0) hn (by simp) c0 ?_
    refine wr0_ok (l := 47 :: piece p0) (by simp) (pc_len (hn.2 p0 (by simp))) ?_
    exact st_bad (L := [p0, p1]) (i := 1) hn (by simp) c1 hQ
  exact absurd ⟨by simp, hn.1, hn.2, fun i hi => by
    match i, hi with
    | 0, _ => exact c0
    | 1, _ => exact c1
    | i + 2, hi => exact absurd hi (show ¬ (i + 2 < 2) by omega)⟩ h
theorem bad3 {p0 p1 p2 : Pt} (hn : Ln [p0, p1, p2]) (h : ¬ okP [p0, p1, p2]) : ∃ e : Int, e ≠ 0 ∧ ∀ Q : Value → Prop, Q (.tuple ⟨[.string ⟨#[]⟩, .int .i64 e]⟩) → tx3 p0.1 (bl p0.2) p1.1 (bl p1.2) p2.1 (bl p2.2) Q := by
  by_cases c0 : pfI [p0, p1, p2] 0 = 0
  case neg =>
    refine ⟨_, c0, fun Q hQ => ?_⟩
    exact st_bad (L := [p0, p1, p2]) (i := 0) hn (by simp) c0 hQ
  by_cases c1 : pfI [p0, p1, p2] 1 = 0
  case neg =>
    refine ⟨_, c1, fun Q hQ => ?_⟩
    refine st_ok0 (L := [p0, p1, p2]) (i := 0) hn (by simp) c0 ?_
    refine wr0_ok (l := 47 :: piece p0) (by simp) (pc_len (hn.2 p0 (by simp))) ?_
    exact st_bad (L := [p0, p1, p2]) (i := 1) hn (by simp) c1 hQ
  by_cases c2 : pfI [p0, p1, p2] 2 = 0
  case neg =>
    refine ⟨_, c2, fun Q hQ => ?_⟩
    refine st_ok0 (L := [p0, p1, p2]) (i := 0) hn (by simp) c0 ?_
    refine wr0_ok (l := 47 :: piece p0) (by simp) (pc_len (hn.2 p0 (by simp))) ?_
    refine st_ok0 (L := [p0, p1, p2]) (i := 1) hn (by simp) c1 ?_
    refine wrT_ok (b := (47 :: piece p0)) (l := 47 :: piece p1) (by simp) (pc_len (hn.2 p1 (by simp))) (by have := len1 (hn.2 p0 (by simp)) ; exact this) ?_
    exact st_bad (L := [p0, p1, p2]) (i := 2) hn (by simp) c2 hQ
  exact absurd ⟨by simp, hn.1, hn.2, fun i hi => by
    match i, hi with
    | 0, _ => exact c0
    | 1, _ => exact c1
    | 2, _ => exact c2
    | i + 3, hi => exact absurd hi (show ¬ (i + 3 < 3) by omega)⟩ h
theorem tt0 (Q : Value → Prop) : ffn Tryz.prog SC1 [] 3000 [] Tryz.f4 [fz ⟨[]⟩] h0 (fun v _ => Q v) = Q (.tuple ⟨[.string ⟨#[]⟩, .int .i64 3]⟩) := by kernel_rfl
/-- What TemplateText hands back. -/
def TtOK (vs : List Value) (r : ByteArray × Int) : Prop :=
  FnOK 0 Tryz.prog 4 ⟨[fz ⟨vs⟩]⟩ h0 (fun v _ => v = .tuple ⟨[.string r.1, .int .i64 r.2]⟩) ∧ (r.2 = 0 → ∃ L, okP L ∧ r.1 = bl (text L)) ∧ ∀ L, okP L → vs = L.map ptV → r = (bl (text L), 0)
theorem ptV_inj {L M : List Pt} (h : L.map ptV = M.map ptV) : L = M := by
  have := congrArg (List.map unP) h
  rwa [unP_map, unP_map] at this
theorem tt_ex {L : List Pt} (hn : Ln L) : ∃ r, TtOK (L.map ptV) r := by
  by_cases h : okP L
  · refine ⟨(bl (text L), 0), ?_, fun _ => ⟨L, h, rfl⟩, fun M _ e => by rw [ptV_inj e]⟩
    match L, hn, h with
    | [], _, h => exact absurd rfl h.1
    | [p0], _, h => exact FnOK.ftree SC1_ok mixed Tryz.func4 someTT (tt1 p0.1 (bl p0.2) _) (good1 h _ rfl)
    | [p0, p1], _, h => exact FnOK.ftree SC1_ok mixed Tryz.func4 someTT (tt2 p0.1 (bl p0.2) p1.1 (bl p1.2) _) (good2 h _ rfl)
    | [p0, p1, p2], _, h => exact FnOK.ftree SC1_ok mixed Tryz.func4 someTT (tt3 p0.1 (bl p0.2) p1.1 (bl p1.2) p2.1 (bl p2.2) _) (good3 h _ rfl)
    | _ :: _ :: _ :: _ :: _, hn, _ => exact absurd hn.1 (by simp)
  · have key : ∃ e : Int, e ≠ 0 ∧ FnOK 0 Tryz.prog 4 ⟨[fz ⟨L.map ptV⟩]⟩ h0 (fun v _ => v = .tuple ⟨[.string ⟨#[]⟩, .int .i64 e]⟩) := by
      match L, hn, h with
      | [], _, _ => exact ⟨3, by decide, FnOK.ftree SC1_ok mixed Tryz.func4 someTT (tt0 _) rfl⟩
      | [p0], hn, h => obtain ⟨e, h1, h2⟩ := bad1 hn h; exact ⟨e, h1, FnOK.ftree SC1_ok mixed Tryz.func4 someTT (tt1 p0.1 (bl p0.2) _) (h2 _ rfl)⟩
      | [p0, p1], hn, h => obtain ⟨e, h1, h2⟩ := bad2 hn h; exact ⟨e, h1, FnOK.ftree SC1_ok mixed Tryz.func4 someTT (tt2 p0.1 (bl p0.2) p1.1 (bl p1.2) _) (h2 _ rfl)⟩
      | [p0, p1, p2], hn, h => obtain ⟨e, h1, h2⟩ := bad3 hn h; exact ⟨e, h1, FnOK.ftree SC1_ok mixed Tryz.func4 someTT (tt3 p0.1 (bl p0.2) p1.1 (bl p1.2) p2.1 (bl p2.2) _) (h2 _ rfl)⟩
      | _ :: _ :: _ :: _ :: _, hn, _ => exact absurd hn.1 (by simp)
    obtain ⟨e, h1, h2⟩ := key
    exact ⟨(⟨#[]⟩, e), h2, fun q => absurd q h1, fun M hM q => absurd (ptV_inj q ▸ hM) h⟩
open Classical in
noncomputable def ttC (vs : List Value) : ByteArray × Int := if h : ∃ r, TtOK vs r then h.choose else (⟨#[]⟩, 0)
theorem ttC_ok {vs : List Value} (h : okV vs = true) : TtOK vs (ttC vs) := by
  obtain ⟨L, hn, rfl⟩ := okV_iff.1 h
  have h := tt_ex hn
  unfold ttC
  rw [dif_pos h]
  exact h.choose_spec
noncomputable def spTt (f : FuncId) (args : Array Value) (h : AH) : Option (Bool × Value × AH) :=
  cond (Nat.beq f 4) (match args with
    | ⟨[.func (.yield 0) ⟨vs⟩ ⟨[]⟩]⟩ => some (okV vs, .tuple ⟨[.string (ttC vs).1, .int .i64 (ttC vs).2]⟩, h)
    | _ => none) none
theorem spTt_ok : SpOK spTt := by
  intro f args h v h' hs
  unfold spTt at hs
  obtain ⟨hf, hs2⟩ := cond_some hs
  clear hs
  have := Nat.eq_of_beq_eq_true hf
  subst this
  split at hs2
  · injection hs2 with hs
    injection hs with hb hs
    injection hs with hv hh
    subst hv hh
    rename_i vs
    exact ⟨FnOK.pure (ttC_ok hb).1 rfl rfl h, Nat.le_refl _⟩
  · cases hs2
end Go.Proofs.YtklcapmmogediaaGreatDoor
