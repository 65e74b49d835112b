/-
  Tokens: the signer, tokens that are issued.
-/
import Derived.Test.YtklednomnpghcaaGreatDoorRvG
import Derived.Test.YtklednomnpghcaaGreatDoorRvW
import Derived.Test.YtklednomnpghcaaGreatDoorScopeQ
namespace Go.Proofs.YtklednomnpghcaaGreatDoor
open Go.Ev Go.RowKit RecLaw PathLaw QueryLaw B64Law

/-! The signer at a moment -/
def findW (zs : List Sw) (t : Int) : Option Sw := zs.reverse.find? (fits t)
theorem bwd_map (zs : List Sw) : (upto (bwd zs) zs.length).map (·.2) = zs.reverse := by
  apply List.ext_getElem
  · simp [upto]
  · intro i h1 h2
    have h3 : i < zs.length := by simpa [upto] using h1
    have h4 : zs.length - 1 - i < zs.length := by omega
    simp [upto, bwd, h4, List.getElem_reverse]
theorem upto_take {α : Type} (f : Nat → α) {k n : Nat} (h : k ≤ n) : upto f k = (upto f n).take k := by
  apply List.ext_getElem
  · simp [upto, h]
  · intro i h1 h2
    simp [upto]
theorem find_of {zs : List Sw} {t : Int} {ini : List (Int × Sw)} {last : Int × Sw} {k : Nat} (hk : k ≤ zs.length) (h1 : upto (bwd zs) k = ini ++ [last]) (h2 : ∀ p ∈ ini, fits t p.2 = false) (h3 : fits t last.2 = true) : findW zs t = some last.2 := by
  have e1 : zs.reverse = (ini.map (·.2) ++ [last.2]) ++ zs.reverse.drop k := by
    have : (upto (bwd zs) k).map (·.2) = zs.reverse.take k := by rw [upto_take _ hk, List.map_take, bwd_map]
    rw [h1, List.map_append] at this
    have q := List.take_append_drop k zs.reverse
    rw [← this] at q
    exact q.symm
  unfold findW
  rw [e1, List.append_assoc, List.find?_append]
  have e2 : (ini.map (·.2)).find? (fits t) = none := by
    rw [List.find?_eq_none]
    intro s hs
    obtain ⟨p, hp, rfl⟩ := List.mem_map.1 hs
    rw [h2 p hp]; decide
  rw [e2]
  simp [h3]
theorem ex_of {zs : List Sw} {t : Int} {s : Sw} (h : findW zs t = some s) : ∃ p ∈ upto (bwd zs) zs.length, fits t p.2 = true := by
  have h1 := List.find?_some h
  have h2 := List.mem_of_find?_eq_some h
  rw [← bwd_map] at h2
  obtain ⟨p, hp, rfl⟩ := List.mem_map.1 h2
  exact ⟨p, hp, h1⟩
theorem sw_cell {N : Emb} {s : Sw} {i : Nat} {v v' : Value} (hv : (swC s)[i]? = some v) (h : VRel N v v') : v' = v := by
  match i, hv with
  | 0, hv => cases hv; exact h.inv_string
  | 1, hv => cases hv; exact h.inv_string
  | 2, hv => cases hv; exact h.inv_int
  | 3, hv => cases hv; exact h.inv_int
  | 4, hv => cases hv; exact h.inv_int
  | i + 5, hv => simp [swC] at hv
theorem sw_self (N : Emb) (s : Sw) : VRel N (swV s) (swV s) := .agg _ _ rfl fun i v v' a b => by
  rw [a] at b
  cases b
  have a : (swC s)[i]? = some v := by simpa using a
  match i, a with
  | 0, a => cases a; exact .string _
  | 1, a => cases a; exact .string _
  | 2, a => cases a; exact .int _ _
  | 3, a => cases a; exact .int _ _
  | 4, a => cases a; exact .int _ _
  | i + 5, a => simp [swC] at a
theorem sa_call {zs : List Sw} {t : Int} {s : Sw} (hl : zs.length ≤ 1000) (hf : findW zs t = some s) (H : AH) : CallOK Tryz.prog 58 ⟨[fz ⟨zs.map swV⟩, .int .i64 t]⟩ H (.tuple ⟨[swV s, .bool true]⟩) H := by
  intro N w args' ha hr _
  obtain ⟨u0, v0, rfl, hu, hv⟩ := two_args ha
  rw [hv.inv_int]
  have hne : zs ≠ [] := fun e => by subst e; cases hf
  rcases VRel.inv_fz hu with ⟨q, a, c, rfl⟩ | ⟨w5, b, o, c, cs, hF, hsz, hc, hs, hx, rfl⟩
  · exact absurd (by simpa using q) hne
  · obtain ⟨⟨ty, fr, hw⟩, _⟩ := hr.froz b cs hF
    have hn : (Array.mk (zs.map swV)).size = zs.length := by simp
    obtain ⟨z0, hz0⟩ := List.exists_mem_of_ne_nil zs hne
    have h5 : w5 = 5 := by
      obtain ⟨i, hi, rfl⟩ := List.getElem_of_mem hz0
      have := hs i (swV zs[i]) (by simp [hi])
      rw [← this]; rfl
    subst h5
    rw [hn] at hsz hc ⊢
    have hcell : ∀ j s, zs[j]? = some s → w.rangeAt b (o + j * 5) (swC s) := by
      intro j s hj i v hv
      have hj2 : j < zs.length := (List.getElem?_eq_some_iff.1 hj).1
      have hi : i < 5 := by
        have := (List.getElem?_eq_some_iff.1 hv).1
        simpa [swC] using this
      have hlt : o + j * 5 + i < cs.size := by omega
      have hjx : (Array.mk (zs.map swV))[j]? = some (swV s) := by
        have : (zs.map swV)[j]? = some (swV s) := by rw [List.getElem?_map, hj]; rfl
        simpa using this
      have hvx : (swV s).cells[i]? = some v := by
        show ((swC s).toArray)[i]? = some v
        simpa using hv
      have h1 := sw_cell hv (hx j i (swV s) v cs[o + j * 5 + i] hjx hvx (Array.getElem?_eq_getElem hlt))
      rw [cell_eq hw, Array.getElem?_eq_getElem hlt, h1]
    have hC := Go.Proofs.YtklednomnpghcaaGreatDoor.sa_in Fence.wide 3 trivial trivial trivial rfl (Nat.le_refl _) b o c zs hl t w (lt_of_some hw) hcell (ex_of hf)
    refine (callsIn_wide.1 hC).mono ?_
    rintro e w' ⟨⟨ini, last, k, hk, e1, e2, e3, rfl⟩, hb⟩
    have := find_of hk e1 e2 e3
    rw [hf] at this
    cases this
    refine ⟨N, _, rfl, .tuple _ _ rfl fun i v v' a b => ?_, ext_below hr hb⟩
    match i with
    | 0 => simp at a b; subst a b; exact sw_self _ _
    | 1 => simp at a b; subst a b; exact .bool _
    | i + 2 => simp at a

def s1W : Sw := ⟨(bl [115, 49]), (bl [111, 110, 101]), 0, 1000, 2000⟩
noncomputable def s1V : Value := .agg ⟨[.string (bl [115, 49]), .string (bl [111, 110, 101]), .int .i64 0, .int .i64 1000, .int .i64 2000]⟩
noncomputable def sgs : Value := fz ⟨[s1V]⟩
theorem sa_5 (h : AH) : CallOK Tryz.prog 58 ⟨[sgs, .int .i64 5]⟩ h (.tuple ⟨[s1V, .bool true]⟩) h := sa_call (zs := [s1W]) (s := s1W) (by decide) rfl h
def SH0 : SC := ⟨idn, fun _ _ _ => none, false, false⟩
theorem SH0_ok : SH0.cfg.OK Tryz.prog := none_ok.cfg
theorem cse (Q : Value → Prop) : ffn Tryz.prog SH0 [] 3000 [] Tryz.f56 [sgs] h0 (fun v _ => Q v) = Q (.int .i64 0) := by kernel_rfl
theorem someCS : Tryz.f56.body.isSome = true := by kernel_rfl
theorem cs_fn : FnOK 0 Tryz.prog 56 ⟨[sgs]⟩ h0 (fun v _ => v = .int .i64 0) := FnOK.ftree SH0_ok mixed Tryz.func56 someCS (cse (fun v => v = .int .i64 0)) rfl
noncomputable def SIs (c : Value) (t E sm : ByteArray) : SC := ⟨idn, spOr (spT 56 [sgs] (.int .i64 0)) (spOr (spT 57 [c] (.tuple ⟨[.string t, .int .i64 0]⟩)) (spOr (spT 58 [sgs, .int .i64 5] (.tuple ⟨[s1V, .bool true]⟩)) (spOr (spT 55 [.string t] (.string E)) (spT 59 [.string (bl [111, 110, 101]), .string ((bl [115, 49, 46]) ++ E)] (.string sm))))), false, false⟩
theorem ise (id sub iss t E sm : ByteArray) (sc : Value) (fr til : Int) (Q : Value → Prop) : ffn Tryz.prog (SIs (clV id sub iss sc fr til) t E sm) [] 900 [] Tryz.f23 [sgs, clV id sub iss sc fr til, .int .i64 5] h0 (fun v _ => Q v) =
    tqT [sgs] (tqT [clV id sub iss sc fr til] (tqT [sgs, .int .i64 5] (bif decide (til > 2000) then Q (.tuple ⟨[.string ⟨#[]⟩, .int .i64 1]⟩) else tqT [.string t] (kk (bl [115, 49, 46]) E fun b => kk b (bl [46]) fun u => tqT [.string (bl [111, 110, 101]), .string ((bl [115, 49, 46]) ++ E)] (kk u sm fun s => Q (.tuple ⟨[.string s, .int .i64 0]⟩)))))) := by kernel_rfl
theorem someIS : Tryz.f23.body.isSome = true := by kernel_rfl
def zE (e : Int) : Value := .tuple ⟨[clV ⟨#[]⟩ ⟨#[]⟩ ⟨#[]⟩ (.slice none 0 0) 0 0, .int .i64 e]⟩
noncomputable def SOp (cv : Value) (tok t E sm : ByteArray) : SC := ⟨idn, spOr (spT 56 [sgs] (.int .i64 0)) (spOr (spT 127 [.string tok, .string ⟨#[46]⟩, .int .i64 0, .int .i64 (-1)] (fz ⟨[.string (bl [115, 49]), .string E, .string sm]⟩)) (spOr (spT 59 [.string (bl [111, 110, 101]), .string ((bl [115, 49, 46]) ++ E)] (.string sm)) (spOr (spT 146 [.string E] (.tuple ⟨[.string t, .int .i64 0]⟩)) (spT 147 [.string t] (.tuple ⟨[cv, .int .i64 0, .int .i64 0]⟩))))), false, false⟩
noncomputable def opT (tok t E sm : ByteArray) (at_ : Int) (cv : Value) (Q : Value → Prop) : Prop :=
  tqT [sgs] (bif decide (at_ ≥ 0) then bif !decide (at_ < 345686400000) then Q (zE 1) else
    tqT [.string tok, .string ⟨#[46]⟩, .int .i64 0, .int .i64 (-1)] (kq (bl [115, 49, 46]) E (tqT [.string (bl [111, 110, 101]), .string ((bl [115, 49, 46]) ++ E)] (bif !(sm.toList == sm.toList) then Q (zE 15) else
      tqT [.string E] (tqT [.string t] (bif decide (at_ < 0) then Q (zE 11) else bif decide (at_ ≥ 2000) then Q (zE 11) else Q (.tuple ⟨[cv, .int .i64 0]⟩))))))
  else Q (zE 1))
set_option maxRecDepth 20000 in
theorem opeN (id sub iss tok t E sm : ByteArray) (fr til at_ : Int) (Q : Value → Prop) : ffn Tryz.prog (SOp (clV id sub iss (.slice none 0 0) fr til) tok t E sm) [] 900 [] Tryz.f108 [sgs, .string tok, .int .i64 at_] h0 (fun v _ => Q v) = opT tok t E sm at_ (clV id sub iss (.slice none 0 0) fr til) Q := by kernel_rfl
set_option maxRecDepth 20000 in
theorem opeM (id sub iss tok t E sm : ByteArray) (S : List Value) (fr til at_ : Int) (Q : Value → Prop) : ffn Tryz.prog (SOp (clV id sub iss (fz ⟨S⟩) fr til) tok t E sm) [] 900 [] Tryz.f108 [sgs, .string tok, .int .i64 at_] h0 (fun v _ => Q v) = opT tok t E sm at_ (clV id sub iss (fz ⟨S⟩) fr til) Q := by kernel_rfl
theorem someOP : Tryz.f108.body.isSome = true := by kernel_rfl
/-- A token. -/
def tokT (t sm : Bs) : Bs := ([115, 49, 46] : Bs) ++ enc t ++ ([46] : Bs) ++ sm
structure TkOk (c : Ck) (sm : Bs) : Prop where
  ck : CkOk c
  sm : SmOk ([111, 110, 101] : Bs) (([115, 49, 46] : Bs) ++ enc c.text) sm
theorem text_ne (c : Ck) : c.text ≠ [] := by
  have h : 0 < (hdB4 c).length := by simp [hdB4]
  intro q
  cases hS : c.S with
  | nil =>
    rw [text_N hS] at q
    have := congrArg List.length q
    rw [List.length_append, List.length_nil] at this
    omega
  | cons s l =>
    rw [text_M hS] at q
    have := congrArg List.length q
    rw [List.length_append, List.length_append, List.length_nil] at this
    omega
theorem enc_l {c : Ck} (h : CkOk c) : (enc c.text).length ≤ 800 := by
  have := text_len h
  have := enc_len c.text
  omega
theorem til_in : ∀ n ∈ nuL.map (·.1), n ≤ 300 := by decide +kernel
theorem v_p2 (c : Ck) : [c.v].all p2 = true := by
  unfold Ck.v
  cases c.S <;> rfl
theorem v_p3 (c : Ck) : p3 c.v = true := by
  unfold Ck.v
  cases c.S <;> rfl
theorem is_fn {c : Ck} {sm : Bs} (h : TkOk c sm) : FnOK 0 Tryz.prog 23 ⟨[sgs, c.v, .int .i64 5]⟩ h0 (fun v _ => v = .tuple ⟨[strV (tokT c.text sm), .int .i64 0]⟩) := by
  have hl := text_len h.ck
  have he := enc_l h.ck
  have hct := ct_fn h.ck
  have hen := en_fn (text_ne c) (by omega)
  obtain ⟨m1, m2, m3, m4⟩ := h.sm
  have ht := til_in _ h.ck.til
  have hp := v_p2 c
  rw [← bl_app] at m4
  unfold Ck.v at hct hp ⊢
  refine FnOK.ftree ((spT_ok (xs := [sgs]) cs_fn rfl rfl).or ((spT_ok (xs := [clV (bl c.id) (bl c.sub) gtB (scF c.S) (c.fr : Int) (c.til : Int)]) hct hp rfl).or ((spT_okC sa_5).or ((spT_ok (xs := [.string (bl c.text)]) hen rfl rfl).or (spT_ok (xs := [.string (bl [111, 110, 101]), .string ((bl [115, 49, 46]) ++ bl (enc c.text))]) m4 rfl rfl))))).cfg mixed Tryz.func23 someIS
    (ise (bl c.id) (bl c.sub) gtB (bl c.text) (bl (enc c.text)) (bl sm) (scF c.S) (c.fr : Int) (c.til : Int) (fun v => v = .tuple ⟨[strV (tokT c.text sm), .int .i64 0]⟩)) (tqT_mk (tqT_mk (tqT_mk (pick_f (decide_eq_false (by omega)) (tqT_mk (kk_mk (by simp; omega) (kk_mk (by simp; omega) (tqT_mk (kk_mk (by simp; omega) rfl)))))))))
theorem tok_spl {c : Ck} {sm : Bs} (h : TkOk c sm) : spl 46 (tokT c.text sm) = [([115, 49] : Bs), enc c.text, sm] := by
  refine spl_body 46 _ _ [enc c.text, sm] (by decide) ?_ ?_
  · intro p hp
    simp only [List.mem_cons, List.not_mem_nil, or_false] at hp
    rcases hp with rfl | rfl
    · exact enc_no _
    · exact h.sm.1
  · rw [body_cons, body_cons, body_nil]
    simp [tokT]
theorem op_fn {c : Ck} {sm : Bs} (h : TkOk c sm) {at_ : Int} (h0a : 0 ≤ at_) (h1a : at_ < 2000) : FnOK 0 Tryz.prog 108 ⟨[sgs, strV (tokT c.text sm), .int .i64 at_]⟩ h0 (fun v _ => v = .tuple ⟨[c.v, .int .i64 0]⟩) := by
  have hl := text_len h.ck
  have he := enc_l h.ck
  have hrc := rc_fn4 h.ck
  have hde := de_fn (text_ne c) (by omega)
  have hs := tok_spl h
  obtain ⟨m1, m2, m3, m4⟩ := h.sm
  have hgs := sp_fn 46 (tokT c.text sm) (by simp [tokT]; omega)
  rw [hs] at hgs
  rw [← bl_app] at m4
  have hp := v_p3 c
  have hT : opT (bl (tokT c.text sm)) (bl c.text) (bl (enc c.text)) (bl sm) at_ c.v (fun v => v = .tuple ⟨[c.v, .int .i64 0]⟩) :=
    tqT_mk (pick_t (decide_eq_true (by omega)) (pick_f (by rw [decide_eq_true (by omega)]; rfl) (tqT_mk (kq_mk (by simp; omega) (tqT_mk (pick_f (by rw [beq_self_eq_true]; rfl) (tqT_mk (tqT_mk (pick_f (decide_eq_false (by omega)) (pick_f (decide_eq_false (by omega)) rfl))))))))))
  have hsp : (SOp c.v (bl (tokT c.text sm)) (bl c.text) (bl (enc c.text)) (bl sm)).cfg.OK Tryz.prog := ((spT_ok (xs := [sgs]) cs_fn rfl rfl).or ((spT_ok (xs := [.string (bl (tokT c.text sm)), .string ⟨#[46]⟩, .int .i64 0, .int .i64 (-1)]) hgs rfl rfl).or ((spT_ok (xs := [.string (bl [111, 110, 101]), .string ((bl [115, 49, 46]) ++ bl (enc c.text))]) m4 rfl rfl).or ((spT_ok (xs := [.string (bl (enc c.text))]) hde rfl rfl).or (spT_ok (xs := [.string (bl c.text)]) hrc rfl (by show (p3 c.v && _) = true; rw [hp]; rfl)))))).cfg
  unfold Ck.v at hsp hT ⊢
  cases hS : c.S with
  | nil =>
    rw [hS] at hsp hT
    exact FnOK.ftree hsp mixed Tryz.func108 someOP (opeN _ _ _ _ _ _ _ _ _ _ _) hT
  | cons s l =>
    rw [hS] at hsp hT
    exact FnOK.ftree hsp mixed Tryz.func108 someOP (opeM _ _ _ _ _ _ _ _ _ _ _ _) hT
end Go.Proofs.YtklednomnpghcaaGreatDoor
