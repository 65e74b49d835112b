/-
  Values: Check, Compare, Text of drawn values.
-/
import Derived.Test.YtljfobpjblnagaaGreatDoorVaY
import Derived.Test.YtljfobpjblnagaaGreatDoorVaQ
namespace Go.Proofs.YtljfobpjblnagaaGreatDoor
open Go.Ev Go.RowKit
set_option maxRecDepth 20000

theorem bnd4 : ∀ n, n ≤ 4 → ValLaw.bnd n ≤ 2801
  | 0, _ => by decide
  | 1, _ => by decide
  | 2, _ => by decide
  | 3, _ => by decide
  | 4, _ => by decide
  | n + 5, h => by omega
theorem txt_ne {n : Nat} {v : ValLaw.T n} (h : ValLaw.GV n v) : ValLaw.txt Lib.itoa n v ≠ [] := by
  obtain ⟨c, l, e, _⟩ := ValLaw.txt_head ValLaw.itoa_num n v (ValLaw.gv_wf h)
  rw [e]; simp
theorem txt_small {n : Nat} (hn : n ≤ 4) {v : ValLaw.T n} (h : ValLaw.GV n v) : (ValLaw.txt Lib.itoa n v).length ≤ 100000 := by
  have h1 := ValLaw.txt_len n v (ValLaw.gv_sh h)
  have h2 := ValLaw.gv_sz h
  have h3 := bnd4 n hn
  omega
theorem wr_base {b : ValLaw.Base} (hd : ValLaw.okD b) (h3 : b.1 ≤ 3) : Wr (vV b.1 b.2.1 b.2.2.1 (bl b.2.2.2) [] []) (ValLaw.txtB Lib.itoa b) := by
  obtain ⟨k, f, n, w⟩ := b
  obtain ⟨⟨h1, _, q3, q4, q5⟩, hw, n0, n1⟩ := hd
  simp only at h1 q3 q4 q5 hw n0 n1 h3
  have hk : k = 0 ∨ k = 1 ∨ k = 2 ∨ k = 3 := by omega
  rcases hk with rfl | rfl | rfl | rfl
  · obtain rfl := q3.resolve_left (by omega)
    obtain rfl := q4.resolve_left (by omega)
    obtain rfl := q5.resolve_left (by omega)
    exact wk0
  · obtain rfl := q4.resolve_left (by omega)
    obtain rfl := q5.resolve_left (by omega)
    exact wk1 f
  · obtain rfl := q3.resolve_left (by omega)
    obtain rfl := q5.resolve_left (by omega)
    exact wk2 n0 n1
  · obtain rfl := q3.resolve_left (by omega)
    obtain rfl := q4.resolve_left (by omega)
    exact wk3 hw
theorem wr_enc : ∀ (n : Nat), n ≤ 4 → ∀ v : ValLaw.T n, ValLaw.GV n v → Wr (enc n v) (ValLaw.txt Lib.itoa n v)
  | 0, _, v, h => by
    have hd := h
    obtain ⟨k, f, n, w⟩ := v
    rcases okD_cases hd with ⟨q1, q2⟩ | ⟨rfl, rfl, rfl, rfl⟩ | ⟨rfl, rfl, rfl, rfl⟩
    · have e : ValLaw.txt Lib.itoa 0 (k, f, n, w) = ValLaw.txtB Lib.itoa (k, f, n, w) := by
        show (if k = 4 then _ else if k = 5 then _ else _) = _
        rw [if_neg (by omega), if_neg (by omega)]
      rw [e]
      exact wr_base hd q2
    · exact wk4 (g := fun _ : Unit => vV 0 false 0 ⟨#[]⟩ [] []) (f := fun _ => []) (fun _ => rfl) [] (Nat.zero_le _) (fun x hx => by cases hx)
    · exact wk5 (g := fun _ : Unit => mbr [] (vV 0 false 0 ⟨#[]⟩ [] [])) (f := fun _ => []) (fun _ => rfl) [] (Nat.zero_le _) (fun x hx => by cases hx)
  | n + 1, hn, v, h => by
    have hh := h
    obtain ⟨⟨k, f, m, w⟩, L, M⟩ := v
    obtain ⟨hd, v2, v3, v4, v5, v6, v7⟩ := h
    simp only at v2 v3 v4 v5 v6 v7
    rcases okD_cases hd with ⟨q1, q2⟩ | ⟨rfl, rfl, rfl, rfl⟩ | ⟨rfl, rfl, rfl, rfl⟩
    · obtain rfl := v2.resolve_left (by omega)
      obtain rfl := v3.resolve_left (by omega)
      have e : ValLaw.txt Lib.itoa (n + 1) ((k, f, m, w), [], []) = ValLaw.txtB Lib.itoa (k, f, m, w) := by
        show (if k = 4 then _ else if k = 5 then _ else _) = _
        rw [if_neg (by omega), if_neg (by omega)]
      rw [e]
      exact wr_base hd q2
    · obtain rfl := v3.resolve_left (by omega)
      exact wk4 (g := enc n) (f := ValLaw.txt Lib.itoa n) (enc_e6 n) L (by omega) (fun x hx => (wr_enc n (by omega) x (v4 x hx)).wv (txt_ne (v4 x hx)) (Nat.le_trans (txt_small (by omega) (v4 x hx)) (by decide)))
    · obtain rfl := v2.resolve_left (by omega)
      have l7 : M.length ≤ 7 := by have := v7.length_le; simpa [ValLaw.namesU] using this
      refine wk5 (g := fun p : ValLaw.W × ValLaw.T n => mbr p.1 (enc n p.2)) (f := fun p : ValLaw.W × ValLaw.T n => ValLaw.qt p.1 ++ 58 :: ValLaw.txt Lib.itoa n p.2) (fun p => mbr_e7 p.1 n p.2) M (by omega) (fun p hp => ?_)
      have hw := v7.subset (List.mem_map.2 ⟨p, hp, rfl⟩)
      exact ⟨p.1, ValLaw.txt Lib.itoa n p.2, rfl, qt_all _ (List.mem_append_right _ hw), by
        show WvB (m6 (mbr p.1 (enc n p.2))) _
        rw [mbr_m6]
        exact (wr_enc n (by omega) p.2 (v5 p hp)).wv (txt_ne (v5 p hp)) (Nat.le_trans (txt_small (by omega) (v5 p hp)) (by decide)), by
        show mbr p.1 (enc n p.2) = mbr p.1 (m6 (mbr p.1 (enc n p.2)))
        rw [mbr_m6]⟩
/-! drawn values, as the program holds them -/
open Classical in
noncomputable def okV (x : Value) : Bool := @decide (∃ v : ValLaw.T 4, ValLaw.GV 4 v ∧ x = enc 4 v) (Classical.propDecidable _)
theorem okV_iff {x : Value} : okV x = true ↔ ∃ v : ValLaw.T 4, ValLaw.GV 4 v ∧ x = enc 4 v := by unfold okV; exact @decide_eq_true_iff _ (Classical.propDecidable _)
open Classical in
noncomputable def decV (x : Value) : ValLaw.T 4 := if h : ∃ v : ValLaw.T 4, ValLaw.GV 4 v ∧ x = enc 4 v then h.choose else leafT 4 (0, false, 0, [])
theorem decV_ok {x : Value} (h : okV x = true) : ValLaw.GV 4 (decV x) ∧ x = enc 4 (decV x) := by
  have h := okV_iff.1 h
  unfold decV
  rw [dif_pos h]
  exact h.choose_spec
/-! Check -/
noncomputable def SCk (x : Value) (k m : Int) : SC := ⟨idn, spOr (spLg x k m) (spFv x true), true, true⟩
theorem someCK : Tryz.f16.body.isSome = true := by kernel_rfl
theorem ck_eq (k : Int) (f : Bool) (n : Int) (s : ByteArray) (lx ly : List Value) (c m : Int) (Q : Value → Prop) : ffn Tryz.prog (SCk (vV k f n s lx ly) c m) [] 600 [] Tryz.f16 [vV k f n s lx ly] h0 (fun v _ => Q v) =
    bif eqV (vV k f n s lx ly) (vV k f n s lx ly) && true && true && decide (0 + c ≤ 5000) && true && decide (1 + m ≤ 50) && true then bif eqV (vV k f n s lx ly) (vV k f n s lx ly) && true then Q (.int .i64 0) else False else False := by kernel_rfl
theorem ck_fn {v : ValLaw.T 4} (hv : ValLaw.GV 4 v) : FnOK 0 Tryz.prog 16 ⟨[enc 4 v]⟩ h0 (fun u _ => u = .int .i64 0) := by
  have h1 := lg_enc 4 v
  have h2 := fv_enc 4 v hv
  have h3 := ValLaw.gv_sz hv
  have h4 := bnd4 4 (by omega)
  obtain ⟨k, f, n, s, lx, ly, hx⟩ := enc_vV 4 v
  rw [hx] at h1 h2 ⊢
  have e0 := ck_eq k f n s lx ly ((ValLaw.sz 4 v : Nat) : Int) ((4 + 1 : Nat) : Int) (fun u => u = .int .i64 0)
  refine FnOK.ftree (h1.2.or (spFv_ok (ok := true) fun _ => h2)).cfg mixed Tryz.func16 someCK e0 (need_mk ?_ (need_mk (by rw [eqV_self]; rfl) rfl))
  rw [eqV_self, decide_eq_true (by omega), decide_eq_true (by omega)]
  rfl
noncomputable def spCk (f : FuncId) (args : Array Value) (h : AH) : Option (Bool × Value × AH) :=
  cond (Nat.beq f 16) (match args with
    | ⟨[y]⟩ => some (okV y, .int .i64 0, h)
    | _ => none) none
theorem spCk_ok : SpOK spCk := by
  intro f args h v h' hs
  unfold spCk at hs
  obtain ⟨hf, hs2⟩ := cond_some hs
  clear hs
  have := Nat.eq_of_beq_eq_true hf
  subst this
  split at hs2
  · injection hs2 with hs
    injection hs with hb hs
    injection hs with hv hh
    subst hv hh
    rename_i y
    obtain ⟨h1, h2⟩ := decV_ok hb
    have hF := ck_fn h1
    rw [← h2] at hF
    refine ⟨FnOK.pure hF ?_ rfl h, Nat.le_refl _⟩
    rw [h2]
    show (p2 (enc 4 (decV y)) && true) = true
    rw [enc_p2]; rfl
  · cases hs2

/-! Compare -/
noncomputable def SCm (x y : Value) (c : Int) : SC := ⟨idn, spOr spCk (spCp true x y c), true, true⟩
theorem someCM : Tryz.f6.body.isSome = true := by kernel_rfl
theorem cm_eq (k k2 : Int) (f f2 : Bool) (n n2 : Int) (s s2 : ByteArray) (lx lx2 ly ly2 : List Value) (c : Int) (Q : Value → Prop) : ffn Tryz.prog (SCm (vV k f n s lx ly) (vV k2 f2 n2 s2 lx2 ly2) c) [] 900 [] Tryz.f6 [vV k f n s lx ly, vV k2 f2 n2 s2 lx2 ly2] h0 (fun v _ => Q v) =
    bif okV (vV k f n s lx ly) then bif okV (vV k2 f2 n2 s2 lx2 ly2) then bif true && eqV (vV k f n s lx ly) (vV k f n s lx ly) && eqV (vV k2 f2 n2 s2 lx2 ly2) (vV k2 f2 n2 s2 lx2 ly2) then Q (.tuple ⟨[.int .i64 c, .int .i64 0]⟩) else False else False else False := by kernel_rfl
noncomputable def cmV (x y : Value) : Int := ValLaw.cmp 4 (decV x) (decV y)
noncomputable def spCm (f : FuncId) (args : Array Value) (h : AH) : Option (Bool × Value × AH) :=
  cond (Nat.beq f 6) (match args with
    | ⟨[x, y]⟩ => some (okV x && okV y, .tuple ⟨[.int .i64 (cmV x y), .int .i64 0]⟩, h)
    | _ => none) none
theorem spCm_ok : SpOK spCm := by
  intro f args h v h' hs
  unfold spCm at hs
  obtain ⟨hf, hs2⟩ := cond_some hs
  clear hs
  have := Nat.eq_of_beq_eq_true hf
  subst this
  split at hs2
  · injection hs2 with hs
    injection hs with hb hs
    injection hs with hv hh
    subst hv hh
    rename_i x y
    rw [Bool.and_eq_true] at hb
    obtain ⟨h1, h2⟩ := decV_ok hb.1
    obtain ⟨h3, h4⟩ := decV_ok hb.2
    have hC := cp_enc 4 (decV x) (decV y) h1 h3
    rw [← h2, ← h4] at hC
    obtain ⟨k, f, n, s, lx, ly, hx⟩ := enc_vV 4 (decV x)
    obtain ⟨k2, f2, n2, s2, lx2, ly2, hy⟩ := enc_vV 4 (decV y)
    have ex := h2.trans hx
    have ey := h4.trans hy
    have hF : FnOK 0 Tryz.prog 6 ⟨[x, y]⟩ h0 (fun v _ => v = .tuple ⟨[.int .i64 (cmV x y), .int .i64 0]⟩) := by
      have e0 := cm_eq k k2 f f2 n n2 s s2 lx lx2 ly ly2 (cmV x y) (fun v => v = .tuple ⟨[.int .i64 (cmV x y), .int .i64 0]⟩)
      rw [← ex, ← ey] at e0
      exact FnOK.ftree (spCk_ok.or (spCp_ok (ok := true) fun _ => hC)).cfg mixed Tryz.func6 someCM e0 (need_mk hb.1 (need_mk hb.2 (need_mk (by rw [eqV_self, eqV_self]; rfl) rfl)))
    refine ⟨FnOK.pure hF ?_ rfl h, Nat.le_refl _⟩
    show (p2 x && (p2 y && true)) = true
    rw [ex, ey]; rfl
  · cases hs2

/-! textOf, Text -/
noncomputable def spWn (x : Value) (t : List Value) (f : FuncId) (args : Array Value) (h : AH) : Option (Bool × Value × AH) :=
  cond (Nat.beq f 31) (match args with
    | ⟨[.pointer (some ⟨b, 0, none⟩), y]⟩ => match h.get b with
      | some (.cells ⟨[.pointer none, .slice none 0 0]⟩ t1 (0, 0)) => some (eqV y x && Nat.beq t1 88 && Nat.blt b h.next, .tuple ⟨[]⟩,
          (h.set b (.cells ⟨[.pointer (some ⟨b, 0, none⟩), .slice (some ⟨h.next, 0, none⟩) t.length t.length]⟩ 88 (0, 0))).push (.cells ⟨t⟩ 5 (0, 0)))
      | _ => none
    | _ => none) none
noncomputable def SWn (x : Value) (t : List Value) : SC := ⟨idn, spWn x t, true, true⟩
theorem wn_call {x : Value} {t : List UInt8} {b : Nat} {H : AH} (hW : Wr x t) (hne : t ≠ []) (ht : t.length ≤ 200000) (hb : H.get b = some (.cells ⟨[.pointer none, .slice none 0 0]⟩ 88 (0, 0))) (hlb : b < H.next) :
    CallOK Tryz.prog 31 ⟨[.pointer (some ⟨b, 0, none⟩), x]⟩ H (.tuple ⟨[]⟩) ((H.set b (.cells ⟨[.pointer (some ⟨b, 0, none⟩), .slice (some ⟨H.next, 0, none⟩) (t.map byV).length (t.map byV).length]⟩ 88 (0, 0))).push (.cells ⟨t.map byV⟩ 5 (0, 0))) := by
  obtain ⟨hx, hF0⟩ := hW
  have hF := (hF0 hne ht).2
  rw [List.length_map]
  have hset : (H.set b (.cells ⟨[.pointer (some ⟨b, 0, none⟩), .slice (some ⟨H.next, 0, none⟩) t.length t.length]⟩ 88 (0, 0))).get b = some (.cells ⟨[.pointer (some ⟨b, 0, none⟩), .slice (some ⟨H.next, 0, none⟩) t.length t.length]⟩ 88 (0, 0)) := look_setB_self hb
  have hsne : ∀ a, a ≠ b → (H.set b (.cells ⟨[.pointer (some ⟨b, 0, none⟩), .slice (some ⟨H.next, 0, none⟩) t.length t.length]⟩ 88 (0, 0))).get a = H.get a := fun a ha => look_setB_ne ha _ _
  have hpx : ∀ r, ren2 r x = some x := fun r => ren2_plain hx
  have z02 : Nat.beq 0 2 = false := rfl
  have z20 : Nat.beq 2 0 = false := rfl
  have hpp : ren2 [(b, 0)] (.pointer (some ⟨b, 0, none⟩)) = some p0V := by simp [ren2, ren1, ren0, renB, p0V]
  refine FnOK.frameP (p := 1) (r := [(b, 0)]) (q := [(0, b), (2, H.next)]) (bl := wN.blocks) (bl' := [(0, wO 2 t.length), (2, .cells ⟨t.map byV⟩ 5 (0, 0))]) (nx := 3) (lw := 3) (u := .tuple ⟨[]⟩) (small := [p0V, x])
    ?_ ?_ ?_ (Nat.le_refl 1) ?_ ?_ ?_ rfl ?_ ?_ (Nat.le_succ _) ?_ ?_
  · simp [renOk, renB, invB, eqO]
  · simp only [ren2s, hpp, hpx]
  · intro i o ho
    match i, ho with
    | 0, ho =>
      cases ho
      exact ⟨b, _, true, by simp, hb, rfl, fun _ v hv => by
        have hv : v ∈ [Value.pointer none, .slice none 0 0] := hv
        simp only [List.mem_cons, List.not_mem_nil, or_false] at hv
        rcases hv with rfl | rfl <;> rfl⟩
    | i + 1, ho => cases ho
  · refine FnOK.weak1 (hF.mono ?_)
    rintro v g ⟨rfl, h1, h2⟩
    have h1 := wr_shape h1
    generalize hk : wrB (g.get 0) = k at h1 h2
    have hk0 : k ≠ 0 := fun e => by
      rw [e] at h2
      rw [h1] at h2
      have h3 : (88 : Nat) = 5 := congrArg tyO (Option.some.inj h2)
      exact absurd h3 (by decide)
    have hk0' : Nat.beq 0 k = false := by
      cases q : Nat.beq 0 k with
      | false => rfl
      | true => exact (hk0 (Nat.eq_of_beq_eq_true q).symm).elim
    have hk0'' : Nat.beq k 0 = false := by
      cases q : Nat.beq k 0 with
      | false => rfl
      | true => exact (hk0 (Nat.eq_of_beq_eq_true q)).elim
    refine ⟨_, _, Weak.norm [true] [(0, 0), (k, 2)] [k] 3 ?_ ?_ rfl (bl := [(0, wO 2 t.length), (2, .cells ⟨t.map byV⟩ 5 (0, 0))]) ?_ ?_, rfl, rfl⟩
    · simp [renOk, renB, invB, eqO, hk0', hk0'', z02, z20]
    · simp [renB, eqO]
    · simp [renH, h1, h2, renO, renL, ren1, ren0, renB, wO, p0V, hk0', hk0'', hk0, Ne.symm hk0]
    · intro a ha o ho
      simp only [List.mem_singleton] at ha
      subst ha
      rw [h2] at ho
      cases ho
      exact nn_all (by_p1 t)
  · have hnx : ((H.set b (.cells ⟨[.pointer (some ⟨b, 0, none⟩), .slice (some ⟨H.next, 0, none⟩) t.length t.length]⟩ 88 (0, 0))).push (.cells ⟨t.map byV⟩ 5 (0, 0))).next = H.next + 1 := rfl
    have e1 : Nat.beq H.next b = false := by
      cases q : Nat.beq H.next b with
      | false => rfl
      | true => have := Nat.eq_of_beq_eq_true q; omega
    have e2 : Nat.beq b H.next = false := by
      cases q : Nat.beq b H.next with
      | false => rfl
      | true => have := Nat.eq_of_beq_eq_true q; omega
    have e3 : Nat.blt b (H.next + 1) = true := by rw [Nat.blt, Nat.ble_eq]; omega
    have e4 : Nat.blt H.next (H.next + 1) = true := by rw [Nat.blt, Nat.ble_eq]; omega
    rw [hnx]
    simp [renOk, renB, invB, eqO, e1, e2, e3, e4, z02, z20]
  · intro i a ha
    simp only [List.mem_cons, Prod.mk.injEq, List.not_mem_nil, or_false] at ha
    rcases ha with ⟨rfl, rfl⟩ | ⟨rfl, rfl⟩
    · exact .inl ⟨by simp, by decide, by rw [hb]; rfl⟩
    · exact .inr ⟨Nat.le_refl _, rfl⟩
  · intro a o2 ha
    rw [look_push] at ha
    split at ha
    · rename_i hn
      cases ha
      refine .inr ⟨2, _, true, ?_, rfl, rfl, fun _ => nn_all (by_p1 t)⟩
      rw [← hn]
      exact .tail _ (.head _)
    · by_cases hab : a = b
      · subst hab
        rw [hset] at ha
        cases ha
        exact .inr ⟨0, _, false, by simp, rfl, by simp [renO, renL, ren1, ren0, renB, wO, p0V, z02], fun h => by cases h⟩
      · rw [hsne a hab] at ha
        refine .inl ⟨ha, fun i hi => ?_⟩
        simp only [List.mem_cons, Prod.mk.injEq, List.not_mem_nil, or_false] at hi
        exact hab hi.1
  · intro hids a o2 ha
    rw [look_push] at ha
    show a < H.next + 1
    split at ha
    · rename_i hn
      have hn : a = H.next := hn.symm
      omega
    · by_cases hab : a = b
      · omega
      · rw [hsne a hab] at ha
        have := hids a o2 ha
        omega
  · exact Nat.min_le_left _ _
  · intro i hi hlow
    have hlow : i < min H.low b := hlow
    rw [look_push, if_neg (by show ¬ _ = _; intro q; have : H.next = i := q; omega), hsne i (by omega)]
theorem spWn_ok {x : Value} {t : List UInt8} (hW : Wr x t) (hne : t ≠ []) (ht : t.length ≤ 200000) : SpOK (spWn x (t.map byV)) := by
  intro f args h v h' hs
  unfold spWn at hs
  obtain ⟨hf, hs2⟩ := cond_some hs
  clear hs
  have := Nat.eq_of_beq_eq_true hf
  subst this
  split at hs2
  · rename_i b y
    split at hs2
    · rename_i t1 hg
      injection hs2 with hs
      injection hs with hb hs
      injection hs with hv hh
      subst hv hh
      simp only [Bool.and_eq_true] at hb
      obtain ⟨⟨b1, b2⟩, b3⟩ := hb
      have b1 := eqV_eq b1
      have b2 := Nat.eq_of_beq_eq_true b2
      subst b1 b2
      exact ⟨wn_call hW hne ht hg (Nat.le_of_ble_eq_true b3), Nat.le_succ _⟩
    · cases hs2
  · cases hs2
theorem someTO : Tryz.f17.body.isSome = true := by kernel_rfl
theorem to_eq (k : Int) (f : Bool) (n : Int) (s : ByteArray) (lx ly t : List Value) (Q : Value → Prop) : ffn Tryz.prog (SWn (vV k f n s lx ly) t) [] 900 [] Tryz.f17 [vV k f n s lx ly] h0 (fun v _ => Q v) =
    bif eqV (vV k f n s lx ly) (vV k f n s lx ly) && true && true then bif decide ((t.length : Int) > 200000) then Q (.tuple ⟨[.string ⟨#[]⟩, .bool false]⟩) else
      bif Nat.ble 1 t.length then bif decide (0 < (t.length : Int)) && decide ((t.length : Int) ≤ 9223372036854775807) && true && true && true && (0 + (t.length : Int).toNat).ble (Array.mk t).size && (List.take (t.length : Int).toNat (List.drop 0 (Array.mk t).toList)).all isByte then
        Q (.tuple ⟨[.string ⟨⟨List.map toByte (List.take (t.length : Int).toNat (List.drop 0 (Array.mk t).toList))⟩⟩, .bool true]⟩) else False else False else False := by kernel_rfl
theorem to_bytes (t : List UInt8) : (t.map byV).map toByte = t := by
  rw [List.map_map]
  have : (toByte ∘ byV) = id := by
    funext b
    show UInt8.ofNat _ = b
    simp
  rw [this, List.map_id]
theorem is_bytes (t : List UInt8) : (t.map byV).all isByte = true := by
  rw [List.all_eq_true]
  intro v hv
  obtain ⟨b, _, rfl⟩ := List.mem_map.1 hv
  have := b.toNat_lt
  simp [isByte, byV]
  omega
theorem to_fn {v : ValLaw.T 4} (hv : ValLaw.GV 4 v) : FnOK 0 Tryz.prog 17 ⟨[enc 4 v]⟩ h0 (fun u _ => u = .tuple ⟨[.string (bl (ValLaw.txt Lib.itoa 4 v)), .bool true]⟩) := by
  have hW := wr_enc 4 (Nat.le_refl _) v hv
  have hne := txt_ne hv
  have hlt := txt_small (Nat.le_refl _) hv
  generalize ValLaw.txt Lib.itoa 4 v = t at hW hne hlt
  obtain ⟨k, f, n, s, lx, ly, hx⟩ := enc_vV 4 v
  rw [hx] at hW ⊢
  have e0 := to_eq k f n s lx ly (t.map byV) (fun u => u = .tuple ⟨[.string (bl t), .bool true]⟩)
  refine FnOK.ftree (spWn_ok hW hne (by omega)).cfg mixed Tryz.func17 someTO e0 (need_mk (by rw [eqV_self]; rfl) ?_)
  have hp : 0 < t.length := List.length_pos_iff.2 hne
  rw [List.length_map]
  have et : List.take ((t.length : Int)).toNat (List.drop 0 (Array.mk (t.map byV)).toList) = t.map byV := by
    rw [List.drop_zero, Int.toNat_natCast]
    exact List.take_of_length_le (by show (t.map byV).length ≤ _; rw [List.length_map]; exact Nat.le_refl _)
  rw [et, is_bytes, to_bytes]
  refine pick_f (decide_eq_false (by omega)) (need_mk (Nat.ble_eq_true_of_le hp) (need_mk ?_ rfl))
  have : (0 + ((t.length : Int)).toNat).ble (Array.mk (t.map byV)).size = true := by
    rw [Nat.ble_eq, Int.toNat_natCast]; show 0 + t.length ≤ (t.map byV).length; rw [List.length_map]; omega
  rw [this, decide_eq_true (by omega), decide_eq_true (by omega)]
  rfl
noncomputable def txV (x : Value) : ByteArray := bl (ValLaw.txt Lib.itoa 4 (decV x))
noncomputable def spTo (f : FuncId) (args : Array Value) (h : AH) : Option (Bool × Value × AH) :=
  cond (Nat.beq f 17) (match args with
    | ⟨[y]⟩ => some (okV y, .tuple ⟨[.string (txV y), .bool true]⟩, h)
    | _ => none) none
theorem spTo_ok : SpOK spTo := by
  intro f args h v h' hs
  unfold spTo at hs
  obtain ⟨hf, hs2⟩ := cond_some hs
  clear hs
  have := Nat.eq_of_beq_eq_true hf
  subst this
  split at hs2
  · injection hs2 with hs
    injection hs with hb hs
    injection hs with hv hh
    subst hv hh
    rename_i y
    obtain ⟨h1, h2⟩ := decV_ok hb
    have hF := to_fn h1
    rw [← h2] at hF
    refine ⟨FnOK.pure hF ?_ rfl h, Nat.le_refl _⟩
    rw [h2]
    show (p2 (enc 4 (decV y)) && true) = true
    rw [enc_p2]; rfl
  · cases hs2
noncomputable def STx : SC := ⟨idn, spOr spCk spTo, true, true⟩
theorem someTX : Tryz.f7.body.isSome = true := by kernel_rfl
theorem tx_eq (k : Int) (f : Bool) (n : Int) (s : ByteArray) (lx ly : List Value) (Q : Value → Prop) : ffn Tryz.prog STx [] 900 [] Tryz.f7 [vV k f n s lx ly] h0 (fun v _ => Q v) =
    bif okV (vV k f n s lx ly) then bif okV (vV k f n s lx ly) then Q (.tuple ⟨[.string (txV (vV k f n s lx ly)), .int .i64 0]⟩) else False else False := by kernel_rfl
noncomputable def spTx (f : FuncId) (args : Array Value) (h : AH) : Option (Bool × Value × AH) :=
  cond (Nat.beq f 7) (match args with
    | ⟨[y]⟩ => some (okV y, .tuple ⟨[.string (txV y), .int .i64 0]⟩, h)
    | _ => none) none
theorem spTx_ok : SpOK spTx := by
  intro f args h v h' hs
  unfold spTx at hs
  obtain ⟨hf, hs2⟩ := cond_some hs
  clear hs
  have := Nat.eq_of_beq_eq_true hf
  subst this
  split at hs2
  · injection hs2 with hs
    injection hs with hb hs
    injection hs with hv hh
    subst hv hh
    rename_i y
    obtain ⟨h1, h2⟩ := decV_ok hb
    obtain ⟨k, f, n, s, lx, ly, hx⟩ := enc_vV 4 (decV y)
    have ex := h2.trans hx
    have hF : FnOK 0 Tryz.prog 7 ⟨[y]⟩ h0 (fun v _ => v = .tuple ⟨[.string (txV y), .int .i64 0]⟩) := by
      have e0 := tx_eq k f n s lx ly (fun v => v = .tuple ⟨[.string (txV y), .int .i64 0]⟩)
      rw [← ex] at e0
      exact FnOK.ftree (spCk_ok.or spTo_ok).cfg mixed Tryz.func7 someTX e0 (need_mk hb (need_mk hb rfl))
    refine ⟨FnOK.pure hF ?_ rfl h, Nat.le_refl _⟩
    show (p2 y && true) = true
    rw [ex]; rfl
  · cases hs2
end Go.Proofs.YtljfobpjblnagaaGreatDoor
