/-
  Tokens: claims as text, written and read back.
-/
import Derived.Test.YtklednomnpghcaaGreatDoorRvF
namespace Go.Proofs.YtklednomnpghcaaGreatDoor
open Go.Ev Go.RowKit RecLaw PathLaw QueryLaw B64Law

theorem spT_okC {n : FuncId} {xs : List Value} {r : Value} (hF : ∀ h, CallOK Tryz.prog n ⟨xs⟩ h r h) : SpOK (spT n xs r) := by
  intro f args h v h' hs
  unfold spT at hs
  obtain ⟨hf, hs2⟩ := cond_some hs
  clear hs
  have := Nat.eq_of_beq_eq_true hf
  subst this
  injection hs2 with hs
  injection hs with hb hs
  injection hs with hv hh
  subst hv hh
  obtain ⟨l⟩ := args
  have e : l = xs := tq_iff hb
  subst e
  exact ⟨hF h, Nat.le_refl _⟩
theorem jn_call {L : List Bs} (h4 : L.length ≤ 1000) (hl : (jw L).length ≤ 1000) (h : AH) : CallOK Tryz.prog 90 ⟨[fz ⟨L.map strV⟩, .string ⟨#[32]⟩]⟩ h (.string (bl (jw L))) h := by
  have e : (L.map bl).map (·.data.toList) = L := by rw [List.map_map]; exact (List.map_congr_left fun x _ => by show (bl x).data.toList = x; rw [bl_list]).trans (List.map_id L)
  have := join_call (P := Tryz.prog) (f := 90) (fun bk o c xs sep w => Tryz.strings_Join bk o c xs sep w) (fun a c sep w => Tryz.strings_Join_none a c sep w) (xs := L.map bl) (sep := ⟨#[32]⟩) (H := h) (by rw [List.length_map]; omega) (by rw [e]; show (jw L).length ≤ _; omega)
  rw [e, List.map_map] at this
  exact this
noncomputable def kk (a b : ByteArray) (K : ByteArray → Prop) : Prop := kq a b (K (a ++ b))
theorem kk_mk {a b : Bs} {K : ByteArray → Prop} (h : a.length + b.length ≤ 1000000) (hK : K (bl (a ++ b))) : kk (bl a) (bl b) K := by
  unfold kk
  rw [bl_app]
  exact kq_mk h hK
noncomputable def inT (n : Int) (X : Prop) : Prop := bif inNu n then X else False
theorem inT_mk {n : Nat} (h : n ∈ nuL.map (·.1)) {X : Prop} (hX : X) : inT (n : Int) X := by
  refine need_mk ?_ hX
  unfold inNu
  rw [Int.toNat_natCast, decide_eq_true (show (0 : Int) ≤ (n : Int) by omega)]
  simpa using h
noncomputable def SCt (xs S : List Value) (J : ByteArray) : SC := ⟨idn, spOr (spT 38 xs (.int .i64 0)) (spOr (spT 90 [fz ⟨S⟩, .string ⟨#[32]⟩] (.string J)) spIt), false, false⟩
noncomputable def ctA (id sub iss : ByteArray) (K : ByteArray → Prop) : Prop := kk (bl [105, 100, 32]) id fun s => kk s (bl [10, 115, 117, 98, 106, 101, 99, 116, 32]) fun s => kk s sub fun s => kk s (bl [10, 105, 115, 115, 117, 101, 114, 32]) fun s => kk s iss fun s => kk s (bl [10]) fun s => K s
noncomputable def ctB (s : ByteArray) (fr til : Int) (Q : Value → Prop) : Prop := inT fr (kk (bl [116, 105, 109, 101, 32]) (bl (nuT fr.toNat)) fun t => kk t (bl [32]) fun t => inT til (kk t (bl (nuT til.toNat)) fun t => kk t (bl [10]) fun t => kk s t fun s =>
  bif decide ((s.size : Int) > 4000) then Q (.tuple ⟨[.string ⟨#[]⟩, .int .i64 2]⟩) else Q (.tuple ⟨[.string s, .int .i64 0]⟩)))
theorem cteN (id sub iss J : ByteArray) (fr til : Int) (S : List Value) (Q : Value → Prop) : ffn Tryz.prog (SCt [clV id sub iss (.slice none 0 0) fr til] S J) [] 900 [] Tryz.f57 [clV id sub iss (.slice none 0 0) fr til] h0 (fun v _ => Q v) =
    tqT [clV id sub iss (.slice none 0 0) fr til] (ctA id sub iss fun s => ctB s fr til Q) := by kernel_rfl
theorem cteM (id sub iss J : ByteArray) (fr til : Int) (S : List Value) (Q : Value → Prop) : ffn Tryz.prog (SCt [clV id sub iss (fz ⟨S⟩) fr til] S J) [] 900 [] Tryz.f57 [clV id sub iss (fz ⟨S⟩) fr til] h0 (fun v _ => Q v) =
    tqT [clV id sub iss (fz ⟨S⟩) fr til] (ctA id sub iss fun s => bif decide (((Array.mk S).size : Int) > 0) then tqT [fz ⟨S⟩, .string ⟨#[32]⟩] (kk (bl [109, 97, 121, 32]) J fun t => kk t (bl [10]) fun t => kk s t fun s => ctB s fr til Q) else ctB s fr til Q) := by kernel_rfl
theorem someCT : Tryz.f57.body.isSome = true := by kernel_rfl

/-- Claims of a gate's token. -/
structure Ck where
  id : Bs
  sub : Bs
  S : List Bs
  fr : Nat
  til : Nat
noncomputable def scF : List Bs → Value
  | [] => .slice none 0 0
  | s :: l => fz ⟨(s :: l).map strV⟩
abbrev gtB : ByteArray := (bl [103, 97, 116, 101])
noncomputable def Ck.v (c : Ck) : Value := clV (bl c.id) (bl c.sub) gtB (scF c.S) (c.fr : Int) (c.til : Int)
def WdOk (w : Bs) : Prop := (32 : UInt8) ∉ w ∧ (10 : UInt8) ∉ w ∧ w ≠ [] ∧ w.length ≤ 10
structure CkOk (c : Ck) : Prop where
  id : WdOk c.id
  sub : WdOk c.sub
  S : ∀ s ∈ c.S, WdOk s
  n : c.S.length ≤ 4
  fr : c.fr ∈ nuL.map (·.1)
  til : c.til ∈ nuL.map (·.1)
  cc : FnOK 0 Tryz.prog 38 ⟨[c.v]⟩ h0 (fun v _ => v = .int .i64 0)
/-- The lines: each its first word and the words behind it. -/
def Ck.L (c : Ck) : List (Bs × List Bs) := [(([105, 100] : Bs), [c.id]), (([115, 117, 98, 106, 101, 99, 116] : Bs), [c.sub]), (([105, 115, 115, 117, 101, 114] : Bs), [([103, 97, 116, 101] : Bs)])] ++ (match c.S with | [] => [] | s :: l => [(([109, 97, 121] : Bs), s :: l)]) ++ [(([116, 105, 109, 101] : Bs), [nuT c.fr, nuT c.til])]
def lineT (p : Bs × List Bs) : Bs := p.1 ++ 32 :: jw p.2
def Ck.text (c : Ck) : Bs := lnT (c.L.map lineT)
theorem jw_one (w : Bs) : jw [w] = w := Lib.join_one w [32]
theorem jw_two (a b : Bs) : jw [a, b] = a ++ 32 :: b := by unfold jw; rw [Lib.join_cons]; simp [Lib.joinTail]
theorem jw_len : ∀ {L : List Bs}, (∀ s ∈ L, WdOk s) → (jw L).length ≤ 11 * L.length
  | [], _ => Nat.le_refl _
  | [s], h => by rw [jw_one]; have := (h s (by simp)).2.2.2; simp only [List.length_cons, List.length_nil]; omega
  | s :: t :: r, h => by
    have h1 := (h s (by simp)).2.2.2
    have h2 := jw_len (L := t :: r) fun x hx => h x (by simp at hx ⊢; exact .inr hx)
    have e : jw (s :: t :: r) = s ++ 32 :: jw (t :: r) := by unfold jw; rw [Lib.join_cons, Lib.join_cons]; simp [Lib.joinTail]
    rw [e, List.length_append, List.length_cons]
    simp only [List.length_cons] at h2 ⊢
    omega
theorem ln4 (a b c d : Bs) : lnT [a, b, c, d] = a ++ 10 :: (b ++ 10 :: (c ++ 10 :: (d ++ [10]))) := by unfold lnT; simp [Lib.join_cons, Lib.joinTail]
theorem ln5 (a b c d e : Bs) : lnT [a, b, c, d, e] = a ++ 10 :: (b ++ 10 :: (c ++ 10 :: (d ++ 10 :: (e ++ [10])))) := by unfold lnT; simp [Lib.join_cons, Lib.joinTail]
def hdB4 (c : Ck) : Bs := ([105, 100] : Bs) ++ 32 :: c.id ++ 10 :: ([115, 117, 98, 106, 101, 99, 116] : Bs) ++ 32 :: c.sub ++ 10 :: ([105, 115, 115, 117, 101, 114] : Bs) ++ 32 :: ([103, 97, 116, 101] : Bs) ++ [10]
def tmB (c : Ck) : Bs := ([116, 105, 109, 101] : Bs) ++ 32 :: nuT c.fr ++ 32 :: nuT c.til ++ [10]
theorem nu_wd {n : Nat} (h : n ∈ nuL.map (·.1)) : WdOk (nuT n) := by
  obtain ⟨h1, h2, h3, h4, _, _⟩ := nuT_ok n h
  exact ⟨h2, h3, h4, by omega⟩
theorem text_N {c : Ck} (h : c.S = []) : c.text = hdB4 c ++ tmB c := by
  unfold Ck.text Ck.L hdB4 tmB
  rw [h]
  show lnT [lineT _, lineT _, lineT _, lineT _] = _
  rw [ln4]
  simp [lineT, jw_one, jw_two]
theorem text_M {c : Ck} {s : Bs} {l : List Bs} (h : c.S = s :: l) : c.text = (hdB4 c ++ (([109, 97, 121] : Bs) ++ 32 :: jw (s :: l) ++ [10])) ++ tmB c := by
  unfold Ck.text Ck.L hdB4 tmB
  rw [h]
  show lnT [lineT _, lineT _, lineT _, lineT _, lineT _] = _
  rw [ln5]
  simp [lineT, jw_one, jw_two]
theorem hd_len {c : Ck} (hc : CkOk c) : (hdB4 c).length ≤ 60 := by
  have a := hc.id.2.2.2
  have b := hc.sub.2.2.2
  simp [hdB4]; omega
theorem tm_len {c : Ck} (hc : CkOk c) : (tmB c).length ≤ 30 := by
  have a := (nu_wd hc.fr).2.2.2
  have b := (nu_wd hc.til).2.2.2
  simp [tmB]; omega
theorem text_len {c : Ck} (hc : CkOk c) : c.text.length ≤ 200 := by
  have a := hd_len hc
  have b := tm_len hc
  have n := hc.n
  cases hS : c.S with
  | nil => rw [text_N hS, List.length_append]; omega
  | cons s l =>
    have d := jw_len (L := s :: l) fun x hx => hc.S x (by rw [hS]; exact hx)
    rw [hS] at n
    rw [text_M hS]
    simp only [List.length_append, List.length_cons, List.length_nil] at a b d n ⊢
    omega
theorem ctA_mk {c : Ck} (hc : CkOk c) {K : ByteArray → Prop} (hK : K (bl (hdB4 c))) : ctA (bl c.id) (bl c.sub) gtB K := by
  have a := hc.id.2.2.2
  have b := hc.sub.2.2.2
  unfold ctA
  refine kk_mk (by simp; omega) (kk_mk (by simp; omega) (kk_mk (by simp; omega) (kk_mk (by simp; omega) (kk_mk (by simp; omega) (kk_mk (by simp; omega) ?_)))))
  have e : hdB4 c = ([105, 100, 32] : Bs) ++ c.id ++ ([10, 115, 117, 98, 106, 101, 99, 116, 32] : Bs) ++ c.sub ++ ([10, 105, 115, 115, 117, 101, 114, 32] : Bs) ++ ([103, 97, 116, 101] : Bs) ++ ([10] : Bs) := by simp [hdB4]
  rw [← e]
  exact hK
theorem ctB_mk {c : Ck} (hc : CkOk c) {s : Bs} (hs : s.length ≤ 150) {Q : Value → Prop} (hQ : Q (.tuple ⟨[strV (s ++ tmB c), .int .i64 0]⟩)) : ctB (bl s) (c.fr : Int) (c.til : Int) Q := by
  have a := (nu_wd hc.fr).2.2.2
  have b := (nu_wd hc.til).2.2.2
  have t := tm_len hc
  unfold ctB
  refine inT_mk hc.fr ?_
  rw [Int.toNat_natCast, Int.toNat_natCast]
  have e : tmB c = ([116, 105, 109, 101, 32] : Bs) ++ nuT c.fr ++ ([32] : Bs) ++ nuT c.til ++ ([10] : Bs) := by simp [tmB]
  refine kk_mk (by simp; omega) (kk_mk (by simp; omega) (inT_mk hc.til (kk_mk (by simp; omega) (kk_mk (by simp; omega) (kk_mk (by rw [← e]; omega) ?_)))))
  rw [← e, bl_size]
  exact pick_f (decide_eq_false (by rw [List.length_append]; omega)) hQ
theorem ct_fn {c : Ck} (hc : CkOk c) : FnOK 0 Tryz.prog 57 ⟨[c.v]⟩ h0 (fun v _ => v = .tuple ⟨[strV c.text, .int .i64 0]⟩) := by
  have hcc := hc.cc
  have hl := hd_len hc
  have hn := hc.n
  unfold Ck.v at hcc ⊢
  cases hS : c.S with
  | nil =>
    rw [hS] at hcc
    refine FnOK.ftree ((spT_ok (xs := [clV (bl c.id) (bl c.sub) gtB (.slice none 0 0) (c.fr : Int) (c.til : Int)]) hcc rfl rfl).or ((spT_okC (jn_call (L := []) (by simp) (by decide))).or spIt_ok)).cfg mixed Tryz.func57 someCT (cteN (bl c.id) (bl c.sub) gtB (bl (jw [])) (c.fr : Int) (c.til : Int) [] (fun v => v = .tuple ⟨[strV c.text, .int .i64 0]⟩)) (tqT_mk (ctA_mk hc (ctB_mk hc (by omega) ?_)))
    rw [text_N hS]
  | cons s l =>
    have d := jw_len (L := s :: l) fun x hx => hc.S x (by rw [hS]; exact hx)
    rw [hS] at hcc hn
    have dn : (jw (s :: l)).length ≤ 44 := by omega
    refine FnOK.ftree ((spT_ok (xs := [clV (bl c.id) (bl c.sub) gtB (fz ⟨(s :: l).map strV⟩) (c.fr : Int) (c.til : Int)]) hcc rfl rfl).or ((spT_okC (jn_call (L := s :: l) (by omega) (by omega))).or spIt_ok)).cfg mixed Tryz.func57 someCT (cteM (bl c.id) (bl c.sub) gtB (bl (jw (s :: l))) (c.fr : Int) (c.til : Int) ((s :: l).map strV) (fun v => v = .tuple ⟨[strV c.text, .int .i64 0]⟩))
      (tqT_mk (ctA_mk hc (pick_t (decide_eq_true (by show (((s :: l).map strV).length : Int) > 0; rw [List.length_map, List.length_cons]; omega)) (tqT_mk (kk_mk (by simp; omega) (kk_mk (by simp; omega) (kk_mk (by simp; omega) ?_)))))))
    have e : ([109, 97, 121, 32] : Bs) ++ jw (s :: l) ++ ([10] : Bs) = ([109, 97, 121] : Bs) ++ 32 :: jw (s :: l) ++ [10] := by simp
    rw [e]
    refine ctB_mk hc (by simp; omega) ?_
    rw [text_M hS]

/-! read back -/
theorem wd_one {w : Bs} (h : WdOk w) : FnOK 0 Tryz.prog 232 ⟨[.string (bl w)]⟩ h0 (fun v _ => v = .tuple ⟨[fz ⟨[.string (bl w)]⟩, .bool true]⟩) := by
  have := kw_fn (L := [w]) (by simp) (by simp) (by intro x hx; rw [List.mem_singleton.1 hx]; exact ⟨h.1, h.2.2.1⟩) (by rw [jw_one]; have := h.2.2.2; omega)
  rw [jw_one] at this
  exact this
theorem wd_two {a b : Bs} (h : WdOk a) (g : WdOk b) : FnOK 0 Tryz.prog 232 ⟨[.string (bl (jw [a, b]))]⟩ h0 (fun v _ => v = .tuple ⟨[fz ⟨[.string (bl a), .string (bl b)]⟩, .bool true]⟩) :=
  kw_fn (L := [a, b]) (by simp) (by simp) (by intro x hx; simp at hx; rcases hx with rfl | rfl; exact ⟨h.1, h.2.2.1⟩; exact ⟨g.1, g.2.2.1⟩) (by have h1 := h.2.2.2; have h2 := g.2.2.2; rw [jw_two]; simp; omega)
abbrev LineOK (l : Bs) (t : LnR) : Prop := FnOK 0 Tryz.prog 175 ⟨[.string (bl l), .string ⟨#[32]⟩]⟩ h0 (fun v _ => v = .tuple ⟨[.string t.1, .string t.2.1, .bool true]⟩) ∧ FnOK 0 Tryz.prog 232 ⟨[.string t.2.1]⟩ h0 (fun v _ => v = .tuple ⟨[fz ⟨t.2.2⟩, .bool true]⟩)
theorem line_mk {f r : Bs} {ws : List Value} (hf : (32 : UInt8) ∉ f) (hl : f.length ≤ 100) (hr : r.length ≤ 100) (hw : FnOK 0 Tryz.prog 232 ⟨[.string (bl r)]⟩ h0 (fun v _ => v = .tuple ⟨[fz ⟨ws⟩, .bool true]⟩)) : LineOK (f ++ 32 :: r) (bl f, bl r, ws) :=
  ⟨cut_fn hf (by simp; omega), hw⟩
theorem ln_ok4 {a b c d : Bs} {ta tb tc td : LnR} (ha : LineOK a ta) (hb : LineOK b tb) (hc : LineOK c tc) (hd : LineOK d td) : okLn [.string (bl a), .string (bl b), .string (bl c), .string (bl d)] [ta, tb, tc, td] = true := by
  refine okLn_iff.2 ⟨rfl, by simp, fun i t h => ?_⟩
  match i, h with
  | 0, h => cases h; exact ⟨_, rfl, ha⟩
  | 1, h => cases h; exact ⟨_, rfl, hb⟩
  | 2, h => cases h; exact ⟨_, rfl, hc⟩
  | 3, h => cases h; exact ⟨_, rfl, hd⟩
  | n + 4, h => simp at h
theorem ln_ok5 {a b c d e : Bs} {ta tb tc td te : LnR} (ha : LineOK a ta) (hb : LineOK b tb) (hc : LineOK c tc) (hd : LineOK d td) (he : LineOK e te) : okLn [.string (bl a), .string (bl b), .string (bl c), .string (bl d), .string (bl e)] [ta, tb, tc, td, te] = true := by
  refine okLn_iff.2 ⟨rfl, by simp, fun i t h => ?_⟩
  match i, h with
  | 0, h => cases h; exact ⟨_, rfl, ha⟩
  | 1, h => cases h; exact ⟨_, rfl, hb⟩
  | 2, h => cases h; exact ⟨_, rfl, hc⟩
  | 3, h => cases h; exact ⟨_, rfl, hd⟩
  | 4, h => cases h; exact ⟨_, rfl, he⟩
  | n + 5, h => simp at h
theorem lk_mk {Ls : List Value} {Tq : List LnR} (h : okLn Ls Tq = true) {X : Prop} (hX : X) : lkT Ls Tq X := need_mk h hX
theorem nt_mk {n : Nat} (h : n ∈ nuL.map (·.1)) {X : Prop} (hX : X) : ntT (bl (nuT n)) X := by
  refine need_mk ?_ hX
  have := (nuT_ok n h).2.2.2.2.1
  unfold inNt
  rw [bl_list]
  simpa using this
theorem nuN_nuT {n : Nat} (h : n ∈ nuL.map (·.1)) : nuN (bl (nuT n)).data.toList = n := by rw [bl_list]; exact (nuT_ok n h).2.2.2.2.2
theorem wd_line {f r : Bs} (h : (10 : UInt8) ∉ f) (g : (10 : UInt8) ∉ r) : (10 : UInt8) ∉ f ++ 32 :: r := by
  intro q
  rcases List.mem_append.1 q with q | q
  · exact h q
  · rcases List.mem_cons.1 q with q | q
    · revert q; decide
    · exact g q
theorem jw_nl : ∀ {L : List Bs}, (∀ s ∈ L, (10 : UInt8) ∉ s) → (10 : UInt8) ∉ jw L
  | [], _ => by simp [jw, Lib.join, List.intercalate]
  | [s], h => by rw [jw_one]; exact h s (by simp)
  | s :: t :: r, h => by
    have h2 := jw_nl (L := t :: r) fun x hx => h x (by simp at hx ⊢; exact .inr hx)
    have e : jw (s :: t :: r) = s ++ 32 :: jw (t :: r) := by unfold jw; rw [Lib.join_cons, Lib.join_cons]; simp [Lib.joinTail]
    rw [e]
    exact wd_line (h s (by simp)) h2
theorem rc_fn4 {c : Ck} (hc : CkOk c) : FnOK 0 Tryz.prog 147 ⟨[strV c.text]⟩ h0 (fun v _ => v = .tuple ⟨[c.v, .int .i64 0, .int .i64 0]⟩) := by
  have hcc := hc.cc
  have hl := text_len hc
  have hn := hc.n
  have i1 := hc.id.2.2.2
  have i2 := hc.sub.2.2.2
  have n1 := nu_wd hc.fr
  have n2 := nu_wd hc.til
  have o1 : LineOK (([105, 100] : Bs) ++ 32 :: c.id) (bl ([105, 100] : Bs), bl c.id, [.string (bl c.id)]) := line_mk (by decide) (by decide) (by omega) (wd_one hc.id)
  have o2 : LineOK (([115, 117, 98, 106, 101, 99, 116] : Bs) ++ 32 :: c.sub) (bl ([115, 117, 98, 106, 101, 99, 116] : Bs), bl c.sub, [.string (bl c.sub)]) := line_mk (by decide) (by decide) (by omega) (wd_one hc.sub)
  have o3 : LineOK (([105, 115, 115, 117, 101, 114] : Bs) ++ 32 :: ([103, 97, 116, 101] : Bs)) (bl ([105, 115, 115, 117, 101, 114] : Bs), bl ([103, 97, 116, 101] : Bs), [.string (bl ([103, 97, 116, 101] : Bs))]) := line_mk (by decide) (by decide) (by decide) (wd_one ⟨by decide, by decide, by decide, by decide⟩)
  have o4 : LineOK (([116, 105, 109, 101] : Bs) ++ 32 :: jw [nuT c.fr, nuT c.til]) (bl ([116, 105, 109, 101] : Bs), bl (jw [nuT c.fr, nuT c.til]), [.string (bl (nuT c.fr)), .string (bl (nuT c.til))]) := line_mk (by decide) (by decide) (by have h1 := n1.2.2.2; have h2 := n2.2.2.2; rw [jw_two]; simp; omega) (wd_two n1 n2)
  have m1 := wd_line (f := ([105, 100] : Bs)) (by decide) hc.id.2.1
  have m2 := wd_line (f := ([115, 117, 98, 106, 101, 99, 116] : Bs)) (by decide) hc.sub.2.1
  have m3 : (10 : UInt8) ∉ (([105, 115, 115, 117, 101, 114] : Bs) ++ 32 :: ([103, 97, 116, 101] : Bs) : Bs) := wd_line (by decide) (by decide)
  have m4 : (10 : UInt8) ∉ ([116, 105, 109, 101] : Bs) ++ 32 :: jw [nuT c.fr, nuT c.til] := wd_line (by decide) (jw_nl (by intro s hs; simp at hs; rcases hs with rfl | rfl; exact n1.2.1; exact n2.2.1))
  unfold Ck.v at hcc ⊢
  cases hS : c.S with
  | nil =>
    rw [hS] at hcc
    have ht : c.text = lnT [([105, 100] : Bs) ++ 32 :: c.id, ([115, 117, 98, 106, 101, 99, 116] : Bs) ++ 32 :: c.sub, ([105, 115, 115, 117, 101, 114] : Bs) ++ 32 :: ([103, 97, 116, 101] : Bs), ([116, 105, 109, 101] : Bs) ++ 32 :: jw [nuT c.fr, nuT c.til]] := by
      unfold Ck.text Ck.L
      rw [hS]
      simp [lineT, jw_one]
    have hli := li_fn (L := [([105, 100] : Bs) ++ 32 :: c.id, ([115, 117, 98, 106, 101, 99, 116] : Bs) ++ 32 :: c.sub, ([105, 115, 115, 117, 101, 114] : Bs) ++ 32 :: ([103, 97, 116, 101] : Bs), ([116, 105, 109, 101] : Bs) ++ 32 :: jw [nuT c.fr, nuT c.til]]) (.inl rfl) (by intro w hw; simp only [List.mem_cons, List.not_mem_nil, or_false] at hw; rcases hw with rfl | rfl | rfl | rfl; exact m1; exact m2; exact m3; exact m4) (by rw [← ht]; omega)
    rw [← ht] at hli
    have okl := ln_ok4 o1 o2 o3 o4
    have e1 := nuN_nuT hc.fr
    have e2 := nuN_nuT hc.til
    refine FnOK.ftree ((spT_ok (xs := [strV c.text]) hli rfl rfl).or ((spLn_ok _).or (spNu_ok.or (spT_ok (xs := [clV (bl c.id) (bl c.sub) gtB (.slice none 0 0) (nuN (bl (nuT c.fr)).data.toList : Int) (nuN (bl (nuT c.til)).data.toList : Int)]) (by rw [e1, e2]; exact hcc) rfl rfl)))).cfg mixed Tryz.func147 someRDC
      (rceN (bl c.text) (bl (([105, 100] : Bs) ++ 32 :: c.id)) (bl (([115, 117, 98, 106, 101, 99, 116] : Bs) ++ 32 :: c.sub)) (bl (([105, 115, 115, 117, 101, 114] : Bs) ++ 32 :: ([103, 97, 116, 101] : Bs))) (bl (([116, 105, 109, 101] : Bs) ++ 32 :: jw [nuT c.fr, nuT c.til])) (bl c.id) (bl c.sub) gtB (bl (jw [nuT c.fr, nuT c.til])) (bl (nuT c.fr)) (bl (nuT c.til)) (fun v => v = .tuple ⟨[clV (bl c.id) (bl c.sub) gtB (scF []) (c.fr : Int) (c.til : Int), .int .i64 0, .int .i64 0]⟩)) ?_
    rw [bl_size]
    refine pick_f (decide_eq_false (by omega)) (tqT_mk (lk_mk okl (lk_mk okl (lk_mk okl (lk_mk okl (lk_mk okl (lk_mk okl (lk_mk okl (nt_mk hc.fr (nt_mk hc.til (tqT_mk ?_)))))))))))
    rw [e1, e2]
    rfl
  | cons s l =>
    have hw : ∀ x ∈ s :: l, WdOk x := fun x hx => hc.S x (by rw [hS]; exact hx)
    have d := jw_len (L := s :: l) hw
    rw [hS] at hcc hn
    have o5 : LineOK (([109, 97, 121] : Bs) ++ 32 :: jw (s :: l)) (bl ([109, 97, 121] : Bs), bl (jw (s :: l)), (s :: l).map strV) := line_mk (by decide) (by decide) (by omega) (kw_fn (by simp) hn (fun x hx => ⟨(hw x hx).1, (hw x hx).2.2.1⟩) (by omega))
    have m5 : (10 : UInt8) ∉ ([109, 97, 121] : Bs) ++ 32 :: jw (s :: l) := wd_line (by decide) (jw_nl fun x hx => (hw x hx).2.1)
    have ht : c.text = lnT [([105, 100] : Bs) ++ 32 :: c.id, ([115, 117, 98, 106, 101, 99, 116] : Bs) ++ 32 :: c.sub, ([105, 115, 115, 117, 101, 114] : Bs) ++ 32 :: ([103, 97, 116, 101] : Bs), ([109, 97, 121] : Bs) ++ 32 :: jw (s :: l), ([116, 105, 109, 101] : Bs) ++ 32 :: jw [nuT c.fr, nuT c.til]] := by
      unfold Ck.text Ck.L
      rw [hS]
      simp [lineT, jw_one]
    have hli := li_fn (L := [([105, 100] : Bs) ++ 32 :: c.id, ([115, 117, 98, 106, 101, 99, 116] : Bs) ++ 32 :: c.sub, ([105, 115, 115, 117, 101, 114] : Bs) ++ 32 :: ([103, 97, 116, 101] : Bs), ([109, 97, 121] : Bs) ++ 32 :: jw (s :: l), ([116, 105, 109, 101] : Bs) ++ 32 :: jw [nuT c.fr, nuT c.til]]) (.inr rfl) (by intro w hw; simp only [List.mem_cons, List.not_mem_nil, or_false] at hw; rcases hw with rfl | rfl | rfl | rfl | rfl; exact m1; exact m2; exact m3; exact m5; exact m4) (by rw [← ht]; omega)
    rw [← ht] at hli
    have okl := ln_ok5 o1 o2 o3 o5 o4
    have e1 := nuN_nuT hc.fr
    have e2 := nuN_nuT hc.til
    refine FnOK.ftree ((spT_ok (xs := [strV c.text]) hli rfl rfl).or ((spLn_ok _).or (spNu_ok.or (spT_ok (xs := [clV (bl c.id) (bl c.sub) gtB (fz ⟨(s :: l).map strV⟩) (nuN (bl (nuT c.fr)).data.toList : Int) (nuN (bl (nuT c.til)).data.toList : Int)]) (by rw [e1, e2]; exact hcc) rfl rfl)))).cfg mixed Tryz.func147 someRDC
      (rceM (bl c.text) (bl (([105, 100] : Bs) ++ 32 :: c.id)) (bl (([115, 117, 98, 106, 101, 99, 116] : Bs) ++ 32 :: c.sub)) (bl (([105, 115, 115, 117, 101, 114] : Bs) ++ 32 :: ([103, 97, 116, 101] : Bs))) (bl (([109, 97, 121] : Bs) ++ 32 :: jw (s :: l))) (bl (([116, 105, 109, 101] : Bs) ++ 32 :: jw [nuT c.fr, nuT c.til])) (bl (jw (s :: l))) (bl c.id) (bl c.sub) gtB (bl (jw [nuT c.fr, nuT c.til])) (bl (nuT c.fr)) (bl (nuT c.til)) ((s :: l).map strV) (fun v => v = .tuple ⟨[clV (bl c.id) (bl c.sub) gtB (scF (s :: l)) (c.fr : Int) (c.til : Int), .int .i64 0, .int .i64 0]⟩)) ?_
    rw [bl_size]
    refine pick_f (decide_eq_false (by omega)) (tqT_mk (lk_mk okl (lk_mk okl (lk_mk okl (lk_mk okl (lk_mk okl (lk_mk okl (lk_mk okl (nt_mk hc.fr (nt_mk hc.til (tqT_mk ?_)))))))))))
    rw [e1, e2]
    rfl
end Go.Proofs.YtklednomnpghcaaGreatDoor
