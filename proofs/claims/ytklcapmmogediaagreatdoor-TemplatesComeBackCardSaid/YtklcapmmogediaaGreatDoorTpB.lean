/-
  Templates: partFault, TemplateText.
-/
import Derived.Test.YtklcapmmogediaaGreatDoorTpA
import Derived.Test.YtklcapmmogediaaGreatDoorTpT
namespace Go.Proofs.YtklcapmmogediaaGreatDoor
open Go.Ev Go.RowKit TplLaw

def okN (s : ByteArray) : Bool := decide (s.data.toList ∈ allN)
def ByteArray.wB (s : ByteArray) : Bool := wordB s.data.toList
noncomputable def sgB (s : ByteArray) : ByteArray := bl (segB s.data.toList)
theorem iw_all : ∀ n ∈ allN, FnOK 0 Tryz.prog 28 ⟨[.string (bl n)]⟩ h0 (fun v _ => v = .bool (wordB n)) := by
  intro n hn
  simp only [allN, List.mem_cons, List.not_mem_nil, or_false] at hn
  rcases hn with rfl | rfl | rfl | rfl | rfl | rfl | rfl | rfl | rfl | rfl | rfl | rfl
  · rw [show wordB [97] = true from by kernel_rfl]; exact iw0F
  · rw [show wordB [98, 32, 99] = false from by kernel_rfl]; exact iw1F
  · rw [show wordB [] = false from by kernel_rfl]; exact iw2F
  · rw [show wordB [97, 47, 98] = false from by kernel_rfl]; exact iw3F
  · rw [show wordB [255] = false from by kernel_rfl]; exact iw4F
  · rw [show wordB [46, 46] = false from by kernel_rfl]; exact iw5F
  · rw [show wordB [123] = false from by kernel_rfl]; exact iw6F
  · rw [show wordB [105, 100] = true from by kernel_rfl]; exact iw7F
  · rw [show wordB [120] = true from by kernel_rfl]; exact iw8F
  · rw [show wordB [114, 101, 115, 116] = true from by kernel_rfl]; exact iw9F
  · rw [show wordB [49] = false from by kernel_rfl]; exact iw10F
  · rw [show wordB [105, 110] = false from by kernel_rfl]; exact iw11F
theorem sg_all : ∀ n ∈ allN, FnOK 0 Tryz.prog 10 ⟨[.string (bl n)]⟩ h0 (fun v _ => v = .string (bl (segB n))) := by
  intro n hn
  simp only [allN, List.mem_cons, List.not_mem_nil, or_false] at hn
  rcases hn with rfl | rfl | rfl | rfl | rfl | rfl | rfl | rfl | rfl | rfl | rfl | rfl
  · rw [show bl (segB [97]) = ⟨#[97]⟩ from by kernel_rfl]; exact sg0F
  · rw [show bl (segB [98, 32, 99]) = ⟨#[98, 37, 50, 48, 99]⟩ from by kernel_rfl]; exact sg1F
  · rw [show bl (segB []) = ⟨#[]⟩ from by kernel_rfl]; exact sg2F
  · rw [show bl (segB [97, 47, 98]) = ⟨#[97, 37, 50, 70, 98]⟩ from by kernel_rfl]; exact sg3F
  · rw [show bl (segB [255]) = ⟨#[37, 70, 70]⟩ from by kernel_rfl]; exact sg4F
  · rw [show bl (segB [46, 46]) = ⟨#[46, 46]⟩ from by kernel_rfl]; exact sg5F
  · rw [show bl (segB [123]) = ⟨#[37, 55, 66]⟩ from by kernel_rfl]; exact sg6F
  · rw [show bl (segB [105, 100]) = ⟨#[105, 100]⟩ from by kernel_rfl]; exact sg7F
  · rw [show bl (segB [120]) = ⟨#[120]⟩ from by kernel_rfl]; exact sg8F
  · rw [show bl (segB [114, 101, 115, 116]) = ⟨#[114, 101, 115, 116]⟩ from by kernel_rfl]; exact sg9F
  · rw [show bl (segB [49]) = ⟨#[49]⟩ from by kernel_rfl]; exact sg10F
  · rw [show bl (segB [105, 110]) = ⟨#[105, 110]⟩ from by kernel_rfl]; exact sg11F
noncomputable def spSg (f : FuncId) (args : Array Value) (h : AH) : Option (Bool × Value × AH) :=
  cond (Nat.beq f 10) (match args with
    | ⟨[.string s]⟩ => some (okN s, .string (sgB s), h)
    | _ => none) none
theorem spSg_ok : SpOK spSg := by
  intro f args h v h' hs
  unfold spSg at hs
  obtain ⟨hf, hs2⟩ := cond_some hs
  clear hs
  have := Nat.eq_of_beq_eq_true hf
  subst this
  split at hs2
  · injection hs2 with hs
    injection hs with hb hs
    injection hs with hv hh
    subst hv hh
    rename_i s
    have := sg_all _ (of_decide_eq_true hb)
    rw [bl_self] at this
    exact ⟨FnOK.pure this rfl rfl h, Nat.le_refl _⟩
  · cases hs2
noncomputable def spIw (f : FuncId) (args : Array Value) (h : AH) : Option (Bool × Value × AH) :=
  cond (Nat.beq f 28) (match args with
    | ⟨[.string s]⟩ => some (okN s, .bool (wordB s.data.toList), h)
    | _ => none) none
theorem spIw_ok : SpOK spIw := by
  intro f args h v h' hs
  unfold spIw at hs
  obtain ⟨hf, hs2⟩ := cond_some hs
  clear hs
  have := Nat.eq_of_beq_eq_true hf
  subst this
  split at hs2
  · injection hs2 with hs
    injection hs with hb hs
    injection hs with hv hh
    subst hv hh
    rename_i s
    have := iw_all _ (of_decide_eq_true hb)
    rw [bl_self] at this
    exact ⟨FnOK.pure this rfl rfl h, Nat.le_refl _⟩
  · cases hs2

/-! partFault -/
def pv (k : Int) (s : ByteArray) : Value := .agg ⟨[.int .i64 k, .string s]⟩
def ptV (p : Pt) : Value := pv p.1 (bl p.2)
noncomputable def SP0 : SC := ⟨idn, spIw, false, true⟩
theorem SP0_ok : SP0.cfg.OK Tryz.prog := spIw_ok.cfg
noncomputable def h1T (k : Int) (t s : ByteArray) (X Y : Prop) : Prop := bif k != 1 then bif t.toList == s.toList then X else Y else Y
noncomputable def pfT (k : Int) (s : ByteArray) (H : Prop → Prop → Prop) (e : Int) (Q : Value → Prop) : Prop :=
  bif decide (k < 1) then Q (.int .i64 4) else bif decide (k > 3) then Q (.int .i64 4) else
    bif k == 1 then bif s.toList == (ByteArray.mk #[46]).toList then Q (.int .i64 5) else bif s.toList == (ByteArray.mk #[46, 46]).toList then Q (.int .i64 5) else
      bif k == 1 then Q (.int .i64 0) else bif okN s then bif !wordB s.data.toList then Q (.int .i64 5) else H (Q (.int .i64 6)) (bif k == 3 then Q (.int .i64 e) else Q (.int .i64 0)) else False
    else bif k == 1 then Q (.int .i64 0) else bif okN s then bif !wordB s.data.toList then Q (.int .i64 5) else H (Q (.int .i64 6)) (bif k == 3 then Q (.int .i64 e) else Q (.int .i64 0)) else False
theorem somePF : Tryz.f8.body.isSome = true := by kernel_rfl
theorem pf10 (k0 : Int) (s0 : ByteArray) (Q : Value → Prop) : ffn Tryz.prog SP0 [] 600 [] Tryz.f8 [(fz ⟨[pv k0 s0]⟩), .int .i64 0] h0 (fun v _ => Q v) = pfT k0 s0 (fun X Y => Y) 0 Q := by kernel_rfl
theorem pf20 (k0 : Int) (s0 : ByteArray) (k1 : Int) (s1 : ByteArray) (Q : Value → Prop) : ffn Tryz.prog SP0 [] 600 [] Tryz.f8 [(fz ⟨[pv k0 s0, pv k1 s1]⟩), .int .i64 0] h0 (fun v _ => Q v) = pfT k0 s0 (fun X Y => Y) 7 Q := by kernel_rfl
theorem pf30 (k0 : Int) (s0 : ByteArray) (k1 : Int) (s1 : ByteArray) (k2 : Int) (s2 : ByteArray) (Q : Value → Prop) : ffn Tryz.prog SP0 [] 600 [] Tryz.f8 [(fz ⟨[pv k0 s0, pv k1 s1, pv k2 s2]⟩), .int .i64 0] h0 (fun v _ => Q v) = pfT k0 s0 (fun X Y => Y) 7 Q := by kernel_rfl
theorem pf21 (k0 : Int) (s0 : ByteArray) (k1 : Int) (s1 : ByteArray) (Q : Value → Prop) : ffn Tryz.prog SP0 [] 600 [] Tryz.f8 [(fz ⟨[pv k0 s0, pv k1 s1]⟩), .int .i64 1] h0 (fun v _ => Q v) = pfT k1 s1 (fun X Y => h1T k0 s0 s1 X Y) 0 Q := by kernel_rfl
theorem pf31 (k0 : Int) (s0 : ByteArray) (k1 : Int) (s1 : ByteArray) (k2 : Int) (s2 : ByteArray) (Q : Value → Prop) : ffn Tryz.prog SP0 [] 600 [] Tryz.f8 [(fz ⟨[pv k0 s0, pv k1 s1, pv k2 s2]⟩), .int .i64 1] h0 (fun v _ => Q v) = pfT k1 s1 (fun X Y => h1T k0 s0 s1 X Y) 7 Q := by kernel_rfl
theorem pf32 (k0 : Int) (s0 : ByteArray) (k1 : Int) (s1 : ByteArray) (k2 : Int) (s2 : ByteArray) (Q : Value → Prop) : ffn Tryz.prog SP0 [] 600 [] Tryz.f8 [(fz ⟨[pv k0 s0, pv k1 s1, pv k2 s2]⟩), .int .i64 2] h0 (fun v _ => Q v) = pfT k2 s2 (fun X Y => h1T k0 s0 s2 X (h1T k1 s1 s2 X Y)) 0 Q := by kernel_rfl

def pfE (b : List Pt) (p : Pt) (last : Bool) : Int := if p.1 < 1 ∨ p.1 > 3 then 4 else if p.1 = 1 then (if dotsB p.2 then 5 else 0) else if wordB p.2 = false then 5 else if hasP b p.2 then 6 else if p.1 = 3 then (if last then 0 else 7) else 0
theorem dots_tbl : ∀ n ∈ allN, ((bl n).toList == (ByteArray.mk #[46]).toList) = false ∧ ((bl n).toList == (ByteArray.mk #[46, 46]).toList) = dotsB n := by decide +kernel
theorem eq_tbl : ∀ a ∈ allN, ∀ b ∈ allN, ((bl a).toList == (bl b).toList) = (a == b) := by decide +kernel
theorem okN_bl {n : List UInt8} (h : n ∈ allN) : okN (bl n) = true := by unfold okN; rw [bl_list]; exact decide_eq_true h
theorem pfT_ok {p : Pt} {H : Prop → Prop → Prop} {b : List Pt} {last : Bool} {e : Int} (hn : p.2 ∈ allN) (hH : ∀ X Y : Prop, (if hasP b p.2 = true then X else Y) → H X Y) (he : e = if last then 0 else 7)
    {Q : Value → Prop} (hQ : Q (.int .i64 (pfE b p last))) : pfT p.1 (bl p.2) H e Q := by
  unfold pfT
  obtain ⟨d1, d2⟩ := dots_tbl _ hn
  rw [d1, d2, okN_bl hn, bl_list]
  unfold pfE at hQ
  by_cases c1 : p.1 < 1
  · rw [if_pos (.inl c1)] at hQ; exact pick_t (decide_eq_true c1) hQ
  by_cases c2 : p.1 > 3
  · rw [if_pos (.inr c2)] at hQ; exact pick_f (decide_eq_false c1) (pick_t (decide_eq_true c2) hQ)
  rw [if_neg (by omega)] at hQ
  refine pick_f (decide_eq_false c1) (pick_f (decide_eq_false c2) ?_)
  by_cases c3 : p.1 = 1
  · rw [if_pos c3] at hQ
    refine pick_t (by rw [c3]; rfl) (pick_f rfl ?_)
    cases hd : dotsB p.2 with
    | true => rw [hd] at hQ; exact hQ
    | false => rw [hd] at hQ; exact pick_f rfl (pick_t (by rw [c3]; rfl) hQ)
  · rw [if_neg c3] at hQ
    refine pick_f (beq_eq_false_iff_ne.2 c3) (pick_f (beq_eq_false_iff_ne.2 c3) (need_mk rfl ?_))
    cases hw : wordB p.2 with
    | false => rw [hw] at hQ; exact hQ
    | true =>
      rw [hw, if_neg (by simp)] at hQ
      refine pick_f rfl (hH _ _ ?_)
      cases hh : hasP b p.2 with
      | true => rw [hh] at hQ; rw [if_pos rfl]; exact hQ
      | false =>
        rw [hh, if_neg (by simp)] at hQ
        rw [if_neg (by simp)]
        by_cases c4 : p.1 = 3
        · rw [if_pos c4] at hQ; rw [he]; exact pick_t (by rw [c4]; rfl) hQ
        · rw [if_neg c4] at hQ; exact pick_f (beq_eq_false_iff_ne.2 c4) hQ
theorem h1_ok {p q : Pt} (hp : p.2 ∈ allN) (hq : q.2 ∈ allN) {X Y : Prop} (h : if (p.1 != 1 && p.2 == q.2) = true then X else Y) : h1T p.1 (bl p.2) (bl q.2) X Y := by
  unfold h1T
  rw [eq_tbl _ hp _ hq]
  cases h1 : (p.1 != 1) with
  | false => rw [h1] at h; exact h
  | true =>
    rw [h1] at h
    cases h2 : (p.2 == q.2) with
    | false => rw [h2] at h; exact h
    | true => rw [h2] at h; exact h
def pfI (L : List Pt) (i : Nat) : Int := pfE (L.take i) (L.getD i (0, [])) (i + 1 == L.length)
theorem pf_fn {L : List Pt} (h1 : L.length ≤ 3) (h2 : ∀ p ∈ L, p.2 ∈ allN) {i : Nat} (hi : i < L.length) : FnOK 0 Tryz.prog 8 ⟨[fz ⟨L.map ptV⟩, .int .i64 (i : Int)]⟩ h0 (fun v _ => v = .int .i64 (pfI L i)) := by
  match L, h1, h2, i, hi with
  | [p0], h1, h2, 0, _ => exact FnOK.ftree SP0_ok mixed Tryz.func8 somePF (pf10 p0.1 (bl p0.2) _) (pfT_ok (b := []) (last := true) (h2 p0 (by simp)) (fun X Y q => by simpa [hasP] using q) rfl rfl)
  | [p0, p1], h1, h2, 0, _ => exact FnOK.ftree SP0_ok mixed Tryz.func8 somePF (pf20 p0.1 (bl p0.2) p1.1 (bl p1.2) _) (pfT_ok (b := []) (last := false) (h2 p0 (by simp)) (fun X Y q => by simpa [hasP] using q) rfl rfl)
  | [p0, p1, p2], h1, h2, 0, _ => exact FnOK.ftree SP0_ok mixed Tryz.func8 somePF (pf30 p0.1 (bl p0.2) p1.1 (bl p1.2) p2.1 (bl p2.2) _) (pfT_ok (b := []) (last := false) (h2 p0 (by simp)) (fun X Y q => by simpa [hasP] using q) rfl rfl)
  | [p0, p1], h1, h2, 1, _ => exact FnOK.ftree SP0_ok mixed Tryz.func8 somePF (pf21 p0.1 (bl p0.2) p1.1 (bl p1.2) _) (pfT_ok (b := [p0]) (last := true) (h2 p1 (by simp)) (fun X Y q => h1_ok (h2 p0 (by simp)) (h2 p1 (by simp)) (by simpa [hasP] using q)) rfl rfl)
  | [p0, p1, p2], h1, h2, 1, _ => exact FnOK.ftree SP0_ok mixed Tryz.func8 somePF (pf31 p0.1 (bl p0.2) p1.1 (bl p1.2) p2.1 (bl p2.2) _) (pfT_ok (b := [p0]) (last := false) (h2 p1 (by simp)) (fun X Y q => h1_ok (h2 p0 (by simp)) (h2 p1 (by simp)) (by simpa [hasP] using q)) rfl rfl)
  | [p0, p1, p2], h1, h2, 2, _ => exact FnOK.ftree SP0_ok mixed Tryz.func8 somePF (pf32 p0.1 (bl p0.2) p1.1 (bl p1.2) p2.1 (bl p2.2) _) (pfT_ok (b := [p0, p1]) (last := true) (h2 p2 (by simp)) (fun X Y q => h1_ok (h2 p0 (by simp)) (h2 p2 (by simp)) (by
      by_cases c : (p0.1 != 1 && p0.2 == p2.2) = true
      · rw [if_pos c]; rw [if_pos (by simp [hasP] at c ⊢; exact .inl c)] at q; exact q
      · rw [if_neg c]; refine h1_ok (h2 p1 (by simp)) (h2 p2 (by simp)) ?_
        have e : hasP [p0, p1] p2.2 = (p1.1 != 1 && p1.2 == p2.2) := by unfold hasP; rw [List.any_cons, List.any_cons, List.any_nil, Bool.or_false, Bool.eq_false_iff.2 c, Bool.false_or]
        rw [← e]; exact q)) rfl rfl)
  | _ :: _ :: _ :: _ :: _, h1, _, _, _ => simp at h1
  | [], _, _, _, hi => simp at hi
  | [_], _, _, i + 1, hi => exact absurd hi (show ¬ (i + 1 < 1) by omega)
  | [_, _], _, _, i + 2, hi => exact absurd hi (show ¬ (i + 2 < 2) by omega)
  | [_, _, _], _, _, i + 3, hi => exact absurd hi (show ¬ (i + 3 < 3) by omega)
def unP (v : Value) : Pt := (toInt (v.cells.toList.getD 0 undef), (toStr (v.cells.toList.getD 1 undef)).data.toList)
theorem unP_ptV (p : Pt) : unP (ptV p) = p := by
  obtain ⟨k, s⟩ := p
  show (k, (bl s).data.toList) = _
  rw [bl_list]
theorem unP_map (L : List Pt) : (L.map ptV).map unP = L := by
  rw [List.map_map]
  have : unP ∘ ptV = id := funext unP_ptV
  rw [this, List.map_id]
/-- Parts of which the names are known. -/
def Ln (L : List Pt) : Prop := L.length ≤ 3 ∧ ∀ p ∈ L, p.2 ∈ allN
open Classical in
noncomputable def okV (vs : List Value) : Bool := @decide (∃ L : List Pt, Ln L ∧ vs = L.map ptV) (Classical.propDecidable _)
theorem okV_iff {vs : List Value} : okV vs = true ↔ ∃ L : List Pt, Ln L ∧ vs = L.map ptV := by unfold okV; exact @decide_eq_true_iff _ (Classical.propDecidable _)
def pfV (vs : List Value) (i : Int) : Int := pfI (vs.map unP) i.toNat
noncomputable def spPf (f : FuncId) (args : Array Value) (h : AH) : Option (Bool × Value × AH) :=
  cond (Nat.beq f 8) (match args with
    | ⟨[.func (.yield 0) ⟨vs⟩ ⟨[]⟩, .int .i64 i]⟩ => some (okV vs && decide (0 ≤ i) && decide (i < (vs.length : Int)), .int .i64 (pfV vs i), h)
    | _ => none) none
theorem spPf_ok : SpOK spPf := by
  intro f args h v h' hs
  unfold spPf at hs
  obtain ⟨hf, hs2⟩ := cond_some hs
  clear hs
  have := Nat.eq_of_beq_eq_true hf
  subst this
  split at hs2
  · injection hs2 with hs
    injection hs with hb hs
    injection hs with hv hh
    subst hv hh
    rename_i vs i
    simp only [Bool.and_eq_true, decide_eq_true_eq] at hb
    obtain ⟨⟨b1, b2⟩, b3⟩ := hb
    obtain ⟨L, ⟨l1, l2⟩, rfl⟩ := okV_iff.1 b1
    rw [List.length_map] at b3
    have := pf_fn l1 l2 (i := i.toNat) (by omega)
    rw [show ((i.toNat : Nat) : Int) = i by omega] at this
    unfold pfV
    rw [unP_map]
    exact ⟨FnOK.pure this rfl rfl h, Nat.le_refl _⟩
  · cases hs2
end Go.Proofs.YtklcapmmogediaaGreatDoor
