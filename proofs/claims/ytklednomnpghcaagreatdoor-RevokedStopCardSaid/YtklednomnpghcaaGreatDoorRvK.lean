/-
  Tokens: claims as they are drawn.
-/
import Derived.Test.YtklednomnpghcaaGreatDoorRvJ
namespace Go.Proofs.YtklednomnpghcaaGreatDoor
section
open Go.Ev Go.RowKit ScopeLaw
theorem okScs_sc {a : Value} (h : okScs a = true) : okSc (leV a) = true := by
  unfold okScs at h
  split at h
  · rfl
  · rename_i vs
    rw [Bool.and_eq_true, Nat.ble_eq] at h
    refine lstB_iff.2 ?_
    obtain ⟨n1, n4⟩ := fourR_nine h.1
    obtain ⟨_, hin, _, _⟩ := nineR_ok n1
    have hlen : (leastV vs).length ≤ 4 := by
      unfold leastV leastR
      rw [List.length_map]
      refine Nat.le_trans (List.length_filter_le _ _) ?_
      have := cut_le (srt (vs.map unS))
      rw [srt_len, List.length_map] at this
      exact Nat.le_trans this n4
    refine ⟨?_, ?_, ?_⟩
    · simp only [fourR, Bool.and_eq_true, Nat.ble_eq]
      refine ⟨?_, hlen⟩
      have hn : nineR (leastV vs) = true := nineR_mk (fun x hx => hin x ((rising_mem _ x).1 (mem_least.1 hx).1)) (by
        have : (leastV vs).length = (leastR (vs.map unS)).length := by unfold leastV; rw [List.length_map]
        omega)
      simp only [nineR, Bool.and_eq_true] at hn
      exact hn.1
    · have hne := leastR_ne (fun x hx => nine_ten x (hin x hx)) (l := vs.map unS) (by intro q; rw [List.map_eq_nil_iff] at q; rw [q] at h; simp at h)
      unfold leastV
      rw [List.length_map]
      exact List.length_pos_iff.2 hne
    · unfold leastV
      rw [un_map, least_idem]
  · cases h
theorem nine_wd : ∀ l ∈ nineL, (32 : UInt8) ∉ l ∧ (10 : UInt8) ∉ l ∧ l ≠ [] ∧ l.length ≤ 10 := by decide +kernel
/-- The scopes of claims as they are drawn. -/
theorem sc_ex (zs : List Int) : ∃ L : List (List UInt8), (∀ s ∈ L, (32 : UInt8) ∉ s ∧ (10 : UInt8) ∉ s ∧ s ≠ [] ∧ s.length ≤ 10) ∧ L.length ≤ 4 ∧ okSc (leV (rsW (intsV zs) 5)) = true ∧ ((L = [] ∧ leV (rsW (intsV zs) 5) = .slice none 0 0) ∨ (L ≠ [] ∧ leV (rsW (intsV zs) 5) = fz ⟨L.map scp⟩)) := by
  have hok := rsW_ok zs (d := 5) (by omega) (by omega)
  have hsc := okScs_sc hok
  by_cases h : nextR (intsV zs) 5 5 = 0
  · have ew : rsW (intsV zs) 5 = .slice none 0 0 := by rw [rsW, if_pos h]
    exact ⟨[], by simp, by simp, hsc, .inl ⟨rfl, by rw [ew]; rfl⟩⟩
  · have ew : rsW (intsV zs) 5 = fz ⟨scL (intsV zs) 5⟩ := by rw [rsW, if_neg h]
    have el : leV (rsW (intsV zs) 5) = fz ⟨(leastR ((scL (intsV zs) 5).map unS)).map scp⟩ := by rw [ew]; rfl
    rw [el] at hsc
    have hl : lstB ((leastR ((scL (intsV zs) 5).map unS)).map scp) = true := hsc
    obtain ⟨q1, q2, _⟩ := lstB_iff.1 hl
    obtain ⟨n1, n4⟩ := fourR_nine q1
    obtain ⟨_, hin, _, _⟩ := nineR_ok n1
    rw [un_map] at hin
    rw [List.length_map] at n4 q2
    refine ⟨leastR ((scL (intsV zs) 5).map unS), fun s hs => nine_wd s (hin s hs), n4, by rw [el]; exact hsc, .inr ⟨?_, el⟩⟩
    intro e
    rw [e] at q2
    simp at q2
end
open Go.Ev Go.RowKit RecLaw PathLaw QueryLaw B64Law

def idL : List Bs := [[116, 49], [116, 50], [116, 51]]
def subL : List Bs := [[97, 110, 110], [98, 111, 98]]
theorem id_all : ∀ l ∈ idL, ((32 : UInt8) ∉ l ∧ (10 : UInt8) ∉ l ∧ l ≠ [] ∧ l.length ≤ 10) ∧ inKey (bl l) = true := by decide +kernel
theorem sub_all : ∀ l ∈ subL, ((32 : UInt8) ∉ l ∧ (10 : UInt8) ∉ l ∧ l ≠ [] ∧ l.length ≤ 10) ∧ inKey (bl l) = true := by decide +kernel
theorem id_ex (zs : List Int) : ∃ l ∈ idL, rcId (intsV zs) = bl l := by
  have hb := (nextR_spec zs 4 0 (by omega) (by omega) (by omega) (by omega)).1
  have : nextR (intsV zs) 0 4 = 0 ∨ nextR (intsV zs) 0 4 = 1 ∨ nextR (intsV zs) 0 4 = 2 ∨ nextR (intsV zs) 0 4 = 3 := by omega
  unfold rcId
  rcases this with h | h | h | h <;> rw [h]
  · exact ⟨[116, 49], by simp [idL], rfl⟩
  · exact ⟨[116, 49], by simp [idL], rfl⟩
  · exact ⟨[116, 50], by simp [idL], rfl⟩
  · exact ⟨[116, 51], by simp [idL], rfl⟩
theorem sub_ex (zs : List Int) : ∃ l ∈ subL, rcSub (intsV zs) = bl l := by
  have hb := (nextR_spec zs 2 1 (by omega) (by omega) (by omega) (by omega)).1
  have : nextR (intsV zs) 1 2 = 0 ∨ nextR (intsV zs) 1 2 = 1 := by omega
  unfold rcSub
  rcases this with h | h <;> rw [h]
  · exact ⟨[97, 110, 110], by simp [subL], rfl⟩
  · exact ⟨[98, 111, 98], by simp [subL], rfl⟩
theorem fr_ex (zs : List Int) : ∃ a ∈ [0, 50, 100], rcFr (intsV zs) = ((a : Nat) : Int) := by
  have h5 := scE_in zs (d := 5) (by omega) (by omega)
  have hb := (nextR_spec zs 3 (scE (intsV zs) 5) (by omega) (by omega) (by omega) (by omega)).1
  have : nextR (intsV zs) (scE (intsV zs) 5) 3 = 0 ∨ nextR (intsV zs) (scE (intsV zs) 5) 3 = 1 ∨ nextR (intsV zs) (scE (intsV zs) 5) 3 = 2 := by omega
  unfold rcFr
  rcases this with h | h | h <;> rw [h]
  · exact ⟨0, by simp, rfl⟩
  · exact ⟨50, by simp, rfl⟩
  · exact ⟨100, by simp, rfl⟩
theorem dt_ex (zs : List Int) : ∃ a ∈ [1, 50, 100, 200], rcDt (intsV zs) = ((a : Nat) : Int) := by
  have h5 := scE_in zs (d := 5) (by omega) (by omega)
  have hb := (nextR_spec zs 4 (scE (intsV zs) 5 + 1) (by omega) (by omega) (by omega) (by omega)).1
  have : nextR (intsV zs) (scE (intsV zs) 5 + 1) 4 = 0 ∨ nextR (intsV zs) (scE (intsV zs) 5 + 1) 4 = 1 ∨ nextR (intsV zs) (scE (intsV zs) 5 + 1) 4 = 2 ∨ nextR (intsV zs) (scE (intsV zs) 5 + 1) 4 = 3 := by omega
  unfold rcDt
  rcases this with h | h | h | h <;> rw [h]
  · exact ⟨1, by simp, rfl⟩
  · exact ⟨50, by simp, rfl⟩
  · exact ⟨100, by simp, rfl⟩
  · exact ⟨200, by simp, rfl⟩
theorem nu_all : ∀ a ∈ [0, 50, 100], ∀ d ∈ [1, 50, 100, 200], a ∈ nuL.map (·.1) ∧ a + d ∈ nuL.map (·.1) ∧ a < a + d ∧ a + d ≤ 300 := by decide +kernel
theorem wI {n : Int} (h : -9223372036854775808 ≤ n) (h2 : n ≤ 9223372036854775807) : W n = n := wrap_id _ h (by omega)
theorem scF_ne {L : List Bs} (h : L ≠ []) : scF L = fz ⟨L.map strV⟩ := by
  cases L with
  | nil => exact absurd rfl h
  | cons s l => rfl
/-- What the law needs of claims that are drawn. -/
structure Drawn (xs : Array Value) (c : Ck) (iss par : ByteArray) (aud : Value) (e : Int) : Prop where
  ck : CkOk c
  lt : c.fr < c.til
  key : inKey (bl c.id) = true
  e0 : 0 ≤ e
  e1 : e ≤ 1000
  au : aud = .slice none 0 0 ∨ ∃ A, aud = fz ⟨A⟩
  rt : RtOK xs 25 (.agg ⟨[.string (bl c.id), .string (bl c.sub), .string iss, .string par, aud, scF c.S, .int .i64 (c.fr : Int), .int .i64 (c.til : Int)]⟩) e
theorem drawn_ex (zs : List Int) : ∃ (c : Ck) (iss par : ByteArray) (aud : Value) (e : Int), Drawn (intsV zs) c iss par aud e := by
  obtain ⟨id, i1, i2⟩ := id_ex zs
  obtain ⟨sub, s1, s2⟩ := sub_ex zs
  obtain ⟨a, a1, a2⟩ := fr_ex zs
  obtain ⟨d, d1, d2⟩ := dt_ex zs
  obtain ⟨L, l1, l2, l3, l4⟩ := sc_ex zs
  obtain ⟨n1, n2, n3, n4⟩ := nu_all a a1 d d1
  obtain ⟨i3, i4⟩ := id_all id i1
  obtain ⟨s3, s4⟩ := sub_all sub s1
  have h5 := scE_in zs (d := 5) (by omega) (by omega)
  have hto : rcTo (intsV zs) = ((a + d : Nat) : Int) := by
    unfold rcTo
    rw [a2, d2, show (a : Int) + (d : Int) = ((a + d : Nat) : Int) from by omega]
    exact wrap_id _ (by omega) (by omega)
  have hsc : leV (rsW (intsV zs) 5) = scF L := by
    rcases l4 with ⟨rfl, e⟩ | ⟨hne, e⟩
    · rw [e]; rfl
    · rw [e, scF_ne hne]; rfl
  rw [hsc] at l3
  have hcc : FnOK 0 Tryz.prog 38 ⟨[(Ck.mk id sub L a (a + d)).v]⟩ h0 (fun v _ => v = .int .i64 0) := by
    have := cc_fn (id := bl id) (sub := bl sub) (iss := gtB) (par := ⟨#[]⟩) (aud := .slice none 0 0) (sc := scF L) (fr := (a : Int)) («to» := ((a + d : Nat) : Int)) i4 s4 (by decide +kernel) (by decide +kernel) rfl l3
    have e : ccE (a : Int) ((a + d : Nat) : Int) = 0 := by unfold ccE; rw [if_neg (by omega), if_neg (by omega), if_neg (by omega)]
    rw [e] at this
    exact this
  refine ⟨⟨id, sub, L, a, a + d⟩, rcIss (intsV zs), rcPar (intsV zs), wAud (nextR (intsV zs) 4 5), scE (intsV zs) 5 + 1 + 1, ⟨i3, s3, l1, l2, n1, n2, hcc⟩, n3, i4, by omega, by omega, ?_, rfl, ?_, ?_⟩
  · unfold wAud
    split
    · exact .inr ⟨_, rfl⟩
    · split
      · exact .inr ⟨_, rfl⟩
      · split
        · exact .inr ⟨_, rfl⟩
        · exact .inl rfl
  · have e1 := wAud_p1 (nextR (intsV zs) 4 5)
    have e2 := leV_p1 (intsV zs) 5
    rw [hsc] at e2
    simp only [p3, p2, List.all_cons, List.all_nil, e1, e2]
    rfl
  · have := rc_fn zs
    unfold rcV at this
    rw [i2, s2, hsc, a2, hto] at this
    exact this
theorem drN_mk (zs : List Int) {d n : Int} (h0 : 0 ≤ d) (h1 : d ≤ 1000000) (hn : 1 ≤ n) (hn2 : n ≤ 1000000000000) {X : Prop} (hX : X) : drN (intsV zs) d n X := by
  refine need_mk ?_ hX
  rw [allInts_intsV, decide_eq_true h0, decide_eq_true h1, decide_eq_true hn, decide_eq_true hn2]
  rfl
theorem lwT_ok {zs : List Int} {c : Ck} {iss par : ByteArray} {aud : Value} {e : Int} (h : Drawn (intsV zs) c iss par aud e) (tok : ByteArray) {a stop : Int} (ha : a = (c.fr : Int) + nextR (intsV zs) e ((c.til : Int) - (c.fr : Int))) (hst : stop = nextR (intsV zs) (e + 1) (c.til : Int)) {X Y : Prop} (hX : stop ≤ a → X) (hY : ¬ stop ≤ a → Y) :
    lwT (intsV zs) aud (scF c.S) X Y (bl c.id) (bl c.sub) iss par tok (c.fr : Int) (c.til : Int) e stop a := by
  have hlt := h.lt
  have q0 := h.e0
  have q1 := h.e1
  have ht := til_in _ h.ck.til
  have b1 := (nextR_spec zs ((c.til : Int) - (c.fr : Int)) e q0 (by omega) (by omega) (by omega)).1
  have b2 := (nextR_spec zs (c.til : Int) (e + 1) (by omega) (by omega) (by omega) (by omega)).1
  have e1 : W ((c.til : Int) - (c.fr : Int)) = (c.til : Int) - (c.fr : Int) := wI (by omega) (by omega)
  have e2 : W ((c.til : Int) - (c.fr : Int) - 1) = (c.til : Int) - (c.fr : Int) - 1 := wI (by omega) (by omega)
  have f2 : W ((c.til : Int) - 1) = (c.til : Int) - 1 := wI (by omega) (by omega)
  have f4 : W (c.til : Int) = (c.til : Int) := wI (by omega) (by omega)
  have e5 : W (nextR (intsV zs) e ((c.til : Int) - (c.fr : Int))) = nextR (intsV zs) e ((c.til : Int) - (c.fr : Int)) := wI (by omega) (by omega)
  have e6 : W ((c.fr : Int) + nextR (intsV zs) e ((c.til : Int) - (c.fr : Int))) = a := by rw [ha]; exact wI (by omega) (by omega)
  have f5 : W (nextR (intsV zs) (e + 1) (c.til : Int)) = stop := by rw [hst]; exact wI (by omega) (by omega)
  unfold lwT
  simp only [e1, e2, Int.sub_zero, Int.sub_add_cancel, Int.zero_add, e5, e6]
  refine need_mk (by rw [okRt_iff.2 h.rt]; rfl) (tqT_mk (pick_f (decide_eq_false (by omega)) (drN_mk zs (by omega) (by omega) (by omega) (by omega) ?_)))
  unfold lwA
  simp only [f2, Int.sub_zero, Int.sub_add_cancel, Int.zero_add, f4, f5]
  refine tqU_mk rfl (pick_f (decide_eq_false (by omega)) (drN_mk zs (by omega) (by omega) (by omega) (by omega) ?_))
  unfold lwB
  refine tqU_mk rfl (tqU_mk rfl (tqU_mk rfl (tqU_mk rfl ?_)))
  by_cases q : stop ≤ a
  · exact pick_t (decide_eq_true q) (hX q)
  · exact pick_f (decide_eq_false q) (hY q)
theorem SLw_ok {c : Ck} {sm : Bs} (h : TkOk c sm) {a stop : Int} (ha : AtOk c a stop) (aud : Value) (iss par : ByteArray) (e : Int) {s : Value} (hs : acR c a stop = s) : (SLw aud (scF c.S) s (bl c.id) (bl c.sub) iss par (bl (tokT c.text sm)) (c.fr : Int) (c.til : Int) e stop a).cfg.OK Tryz.prog := by
  have hp := v_p2 c
  have hq := v_p3 c
  have g1 := is_fn h
  have g2 := acN_fn h ha
  have g3 := acS_fn h ha
  have g4 := rv_fn h.ck ha
  have g5 := pr_fn h.ck ha
  have g6 : p3 s = true := by
    rw [← hs]
    unfold acR
    split
    · rfl
    · show (p3 c.v && _) = true
      rw [hq]; rfl
  rw [hs] at g3
  have hp1 : p2 c.v = true := by simpa using hp
  exact (spReady_ok.or ((spRt_ok _ _).or ((spT_ok (xs := [sgs, c.v, .int .i64 5]) g1 (by show (p2 sgs && (p2 c.v && _)) = true; rw [hp1]; rfl) rfl).or ((spAc_ok g2 rfl (by show (p3 c.v && _) = true; rw [hq]; rfl) g3 rfl g6).or ((spT_ok (xs := [.slice none 0 0, c.v, .int .i64 stop]) g4 (by show (p2 (.slice none 0 0) && (p2 c.v && _)) = true; rw [hp1]; rfl) rfl).or ((spT_ok (xs := [fz ⟨[r1V (bl c.id) stop (c.til : Int)]⟩, .int .i64 a]) g5 rfl rfl).or (spNext_ok []))))))).cfg
set_option maxRecDepth 100000 in
theorem law_all (zs : List Int) : FnOK 0 Tryz.prog 4 ⟨[fz (intsV zs)]⟩ h0 (fun v _ => v = .bool true) := by
  obtain ⟨c, iss, par, aud, e, h⟩ := drawn_ex zs
  obtain ⟨sm, hsm⟩ := su_fn (s := ([111, 110, 101] : Bs)) (t := ([115, 49, 46] : Bs) ++ enc c.text) (by decide) (by have := enc_l h.ck; simp; omega)
  have hk : TkOk c sm := ⟨h.ck, hsm⟩
  have hlt := h.lt
  have q0 := h.e0
  have q1 := h.e1
  have ht := til_in _ h.ck.til
  obtain ⟨a, ha⟩ : ∃ a, a = (c.fr : Int) + nextR (intsV zs) e ((c.til : Int) - (c.fr : Int)) := ⟨_, rfl⟩
  obtain ⟨stop, hst⟩ : ∃ stop, stop = nextR (intsV zs) (e + 1) (c.til : Int) := ⟨_, rfl⟩
  have b1 := (nextR_spec zs ((c.til : Int) - (c.fr : Int)) e q0 (by omega) (by omega) (by omega)).1
  have b2 := (nextR_spec zs (c.til : Int) (e + 1) (by omega) (by omega) (by omega) (by omega)).1
  have hat : AtOk c a stop := ⟨by omega, by omega, by omega, by omega, h.key⟩
  by_cases q : stop ≤ a
  · have hs := SLw_ok hk hat aud iss par e (s := zE 13) (by unfold acR; rw [if_pos q])
    have hw := fun Q : Value → Prop => lwT_ok h (bl (tokT c.text sm)) ha hst (X := Q (.bool true)) (Y := Q (.bool false))
    have hw1 := hw (fun v => v = .bool true) (fun _ => rfl) (fun n => absurd q n)
    clear hw
    rcases h.au with rfl | ⟨A, rfl⟩
    · cases hS : c.S with
      | nil => rw [hS] at hs hw1; exact FnOK.ttree hs mixed Tryz.func4 someLW GLw_ok (lw_nnt (intsV zs) (bl c.id) (bl c.sub) iss par (bl (tokT c.text sm)) (c.fr : Int) (c.til : Int) e stop a (fun v => v = .bool true)) hw1
      | cons s l => rw [hS] at hs hw1; exact FnOK.ttree hs mixed Tryz.func4 someLW GLw_ok (lw_nft (intsV zs) ((s :: l).map strV) (bl c.id) (bl c.sub) iss par (bl (tokT c.text sm)) (c.fr : Int) (c.til : Int) e stop a (fun v => v = .bool true)) hw1
    · cases hS : c.S with
      | nil => rw [hS] at hs hw1; exact FnOK.ttree hs mixed Tryz.func4 someLW GLw_ok (lw_fnt (intsV zs) A (bl c.id) (bl c.sub) iss par (bl (tokT c.text sm)) (c.fr : Int) (c.til : Int) e stop a (fun v => v = .bool true)) hw1
      | cons s l => rw [hS] at hs hw1; exact FnOK.ttree hs mixed Tryz.func4 someLW GLw_ok (lw_fft (intsV zs) A ((s :: l).map strV) (bl c.id) (bl c.sub) iss par (bl (tokT c.text sm)) (c.fr : Int) (c.til : Int) e stop a (fun v => v = .bool true)) hw1
  · have hs := SLw_ok hk hat aud iss par e (s := .tuple ⟨[c.v, .int .i64 0]⟩) (by unfold acR; rw [if_neg q])
    have hw := fun Q : Value → Prop => lwT_ok h (bl (tokT c.text sm)) ha hst (X := Q (.bool false)) (Y := Q (.bool true))
    have hw1 := hw (fun v => v = .bool true) (fun n => absurd n q) (fun _ => rfl)
    clear hw
    unfold Ck.v at hs
    rcases h.au with rfl | ⟨A, rfl⟩
    · cases hS : c.S with
      | nil => rw [hS] at hs hw1; exact FnOK.ttree hs mixed Tryz.func4 someLW GLw_ok (lw_nnf (intsV zs) (bl c.id) (bl c.sub) iss par (bl (tokT c.text sm)) (c.fr : Int) (c.til : Int) e stop a (fun v => v = .bool true)) hw1
      | cons s l => rw [hS] at hs hw1; exact FnOK.ttree hs mixed Tryz.func4 someLW GLw_ok (lw_nff (intsV zs) ((s :: l).map strV) (bl c.id) (bl c.sub) iss par (bl (tokT c.text sm)) (c.fr : Int) (c.til : Int) e stop a (fun v => v = .bool true)) hw1
    · cases hS : c.S with
      | nil => rw [hS] at hs hw1; exact FnOK.ttree hs mixed Tryz.func4 someLW GLw_ok (lw_fnf (intsV zs) A (bl c.id) (bl c.sub) iss par (bl (tokT c.text sm)) (c.fr : Int) (c.til : Int) e stop a (fun v => v = .bool true)) hw1
      | cons s l => rw [hS] at hs hw1; exact FnOK.ttree hs mixed Tryz.func4 someLW GLw_ok (lw_fff (intsV zs) A ((s :: l).map strV) (bl c.id) (bl c.sub) iss par (bl (tokT c.text sm)) (c.fr : Int) (c.til : Int) e stop a (fun v => v = .bool true)) hw1
end Go.Proofs.YtklednomnpghcaaGreatDoor
