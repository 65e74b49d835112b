/-
  Tokens stay: the law, put together.
-/
import Derived.Test.YtklednomnpghcaaGreatDoorTsK
import Derived.Test.YtklednomnpghcaaGreatDoorTsM0
import Derived.Test.YtklednomnpghcaaGreatDoorTsM1
import Derived.Test.YtklednomnpghcaaGreatDoorTsM2
import Derived.Test.YtklednomnpghcaaGreatDoorTsM3
namespace Go.Proofs.YtklednomnpghcaaGreatDoor
open Go.Ev Go.RowKit ScopeLaw

def ShM (f : FuncId) (xs : List Value) (t : TypeId) (m w : Nat) : Sh → Prop
  | .nl e => FnOK 0 Tryz.prog f ⟨xs⟩ h0 (fun v _ => v = .tuple ⟨[.slice none 0 0, .int .i64 e]⟩)
  | .rw n c cs => RowOK f xs (slE n c) cs t ∧ OKZ m w n cs
def ShB (f : FuncId) (xs : List Value) (ys : Value) : Sh → Prop
  | .nl _ => ys = .slice none 0 0 ∧ FnOK 0 Tryz.prog f ⟨xs⟩ h0 (fun v _ => v = .slice none 0 0)
  | .rw n c cs => RowOK f xs (slB n c) cs 9 ∧ n ≤ c ∧ ∃ l, ys = fz ⟨l⟩ ∧ RowS n cs l
theorem spM_ok {f : FuncId} {xs : List Value} {t : TypeId} {m w : Nat} (h2 : xs.all p2 = true) (hr : xs.all pr = true) : ∀ {s : Sh}, ShM f xs t m w s → SpOK (spM f xs t s)
  | .nl _, h => spT_ok h h2 rfl
  | .rw n c _, h => spR_ok h.1 hr h.2.2.2 (slE_ren n c)
theorem spB_ok {f : FuncId} {xs : List Value} {ys : Value} (h2 : xs.all p2 = true) (hr : xs.all pr = true) : ∀ {s : Sh}, ShB f xs ys s → SpOK (spB f xs 9 s)
  | .nl _, h => spT_ok h.2 h2 rfl
  | .rw n c _, ⟨h, _, _, _, hS⟩ => spR_ok h hr hS.1.2.2 (slB_ren n c)
theorem lwZ_mk {f : FuncId} {xs : List Value} {t : TypeId} {m w : Nat} {Z : Prop} (z : Z) : ∀ {s : Sh}, ShM f xs t m w s → lwZ m w s Z
  | .nl _, _ => z
  | .rw _ _ _, h => need_mk (okZ_iff.2 h.2) z
theorem lwZ_mkB {f : FuncId} {xs : List Value} {ys : Value} {Z : Prop} (z : Z) : ∀ {s : Sh}, ShB f xs ys s → lwZ 9 1 s Z
  | .nl _, _ => z
  | .rw _ _ _, ⟨_, _, _, _, hS⟩ => need_mk (okZ_iff.2 hS.1) z
theorem thS_ok {f : FuncId} {xs : List Value} {ys : Value} : ∀ {s : Sh}, ShB f xs ys s → thS s = true ∧ fzS s = ys
  | .nl _, h => ⟨rfl, h.1.symm⟩
  | .rw n c cs, ⟨_, hc, l, hy, hS⟩ => by
    refine ⟨?_, ?_⟩
    · show (cs.all strV? && Nat.ble n cs.length && Nat.ble n c) = true
      rw [hS.2.1, Nat.ble_eq_true_of_le (by have := hS.1.2.1; omega), Nat.ble_eq_true_of_le hc]
      rfl
    · show fz ⟨cs.take n⟩ = ys
      rw [hS.2.2, hy]
/-- All that is told. -/
structure TldOK (xs : Array Value) (D : Tld) (A S : Value) (L : List S4) (R : List R3) (m1 m2 m4 m5 m6 m7 : Sh) : Prop where
  g1 : GOK 5 xs 25 0 D.X D.d1
  g2 : GOK 6 xs 25 D.d1 D.S D.d2
  g3 : GOK 7 xs 25 D.d2 (cC D A S) D.d3
  g4 : GOK 8 xs 25 D.d3 D.R D.d4
  x : okScs D.X = true
  s : D.S = sgW L
  sg : SgOK none L
  r : D.R = rvW R
  r4 : R.length ≤ 4
  c : ClmOK D.i D.s D.g D.p A S D.f D.t
  k1 : ShM 9 [D.X] 9 9 1 m1
  k2 : ShM 11 [D.X, D.X] 9 9 1 m2
  k3 : RowOK 12 (D.S :: roA) (slE D.n3 D.c3) D.r3 44
  z3 : OKZ 4 5 D.n3 D.r3
  k4 : ShB 41 [A] A m4
  k5 : ShB 33 [S] S m5
  k6 : ShM 15 [D.R, cC D A S, .int .i64 5] 53 5 3 m6
  k7 : ShM 17 [D.R, .int .i64 0] 53 5 3 m7
theorem okScs_p1 {v : Value} (h : okScs v = true) : p1 v = true := by
  unfold okScs at h
  split at h
  · rfl
  · rfl
  · cases h
theorem p1_p2 {v : Value} (h : p1 v = true) : p2 v = true := by
  cases v <;> first | exact h | (cases h)
theorem p1_pr {v : Value} (h : p1 v = true) : pr v = true := by
  cases v <;> first | exact h | (cases h)
theorem p1_p3a {v : Value} (h : p1 v = true) : p3 v = true := by
  cases v <;> first | exact h | (cases h)
theorem two {q : Value → Bool} {a b : Value} (ha : q a = true) (hb : q b = true) : [a, b].all q = true := by simp [ha, hb]
theorem one {q : Value → Bool} {a : Value} (ha : q a = true) : [a].all q = true := by simp [ha]
theorem law_ok {xs : Array Value} {D : Tld} {A S : Value} {L : List S4} {R : List R3} {m1 m2 m4 m5 m6 m7 : Sh} (h : TldOK xs D A S L R m1 m2 m4 m5 m6 m7) : (SLw D A S m1 m2 m4 m5 m6 m7).cfg.OK Tryz.prog := by
  have hA := okAud_p1 h.c.2.2.2.2.1
  have hS := okSc_p1 h.c.2.2.2.2.2.1
  have hX := okScs_p1 h.x
  have hs : p1 D.S = true := by rw [h.s]; exact sgW_p1 L
  have hr : p1 D.R = true := by rw [h.r]; exact rvW_p1 R
  have hC : p2 (cC D A S) = true := by have := p2_clm (i := D.i) (s := D.s) (g := D.g) (p := D.p) (f := D.f) (t := D.t) h.c.2.2.2.2.1 h.c.2.2.2.2.2.1; simpa [cC] using this
  have hCr : pr (cC D A S) = true := hC
  refine ((spG_ok _ _ _).or ((spG_ok _ _ _).or ((spG_ok _ _ _).or ((spG_ok _ _ _).or ((spM_ok (one (p1_p2 hX)) (one (p1_pr hX)) h.k1).or ((spM_ok (two (p1_p2 hX) (p1_p2 hX)) (two (p1_pr hX) (p1_pr hX)) h.k2).or
    ((spR_ok h.k3 ?_ h.z3.2.2 (slE_ren _ _)).or (spTc_ok.or ((spT_ok (cks_fn h.c.2.2.2.2.2.1) (one (p1_p2 hS)) rfl).or (spKy_ok.or ((spT_ok (cas_fn h.c.2.2.2.2.2.1) (two (p1_p2 hS) (p1_p2 hS)) rfl).or ((spB_ok (one (p1_p2 hA)) (one (p1_pr hA)) h.k4).or ((spB_ok (one (p1_p2 hS)) (one (p1_pr hS)) h.k5).or
    ((spM_ok ?_ ?_ h.k6).or ((spM_ok ?_ ?_ h.k7).or (spZS_ok.or (spZG_ok.or (spZV_ok.or (spEs_ok.or ((spT_ok ?_ (two (p1_p2 hs) (p1_p2 hs)) rfl).or ((spT_ok ?_ (two hC hC) rfl).or ((spT_ok ?_ (two (p1_p2 hr) (p1_p2 hr)) rfl).or spReady_ok)))))))))))))))))))))).cfg
  · simp only [List.all_cons, p1_pr hs]; rfl
  · simp only [List.all_cons, p1_p2 hr, hC]; rfl
  · simp only [List.all_cons, p1_pr hr, hCr]; rfl
  · simp only [List.all_cons, p1_p2 hr]; rfl
  · simp only [List.all_cons, p1_pr hr]; rfl
  · rw [h.s]; exact eqg_fn L
  · exact sm_fn h.c
  · rw [h.r]; exact eqv_fn R h.r4
theorem lwE_ok {xs : Array Value} {D : Tld} {A S : Value} {L : List S4} {R : List R3} {m1 m2 m4 m5 m6 m7 : Sh} (h : TldOK xs D A S L R m1 m2 m4 m5 m6 m7) : lwE D A S m6 m7 (fun v => v = .bool true) :=
  tqT_mk (lwZ_mk (tqT_mk (lwZ_mk (need_mk (okE_iff.2 (eqs_scs h.x)) (tqT_mk (tqT_mk (tqT_mk rfl)))) h.k7)) h.k6)
theorem lwT_ok {xs : Array Value} {D : Tld} {A S : Value} {L : List S4} {R : List R3} {m1 m2 m4 m5 m6 m7 : Sh} (h : TldOK xs D A S L R m1 m2 m4 m5 m6 m7) : lwT xs D A S m1 m2 m4 m5 m6 m7 (fun v => v = .bool true) := by
  have hE := lwE_ok h
  have q1 := okG_iff.2 h.g1
  have q2 := okG_iff.2 h.g2
  have q3 := okG_iff.2 h.g3
  have q4 := okG_iff.2 h.g4
  have t4 := thS_ok h.k4
  have t5 := thS_ok h.k5
  have hne : ((⟨#[116, 57]⟩ : ByteArray).toList == D.i.toList) = false := by
    rcases h.c.1 with q | q | q <;> rw [q] <;> decide +kernel
  have hlw : ∀ Z : Prop, Z → lwG xs D A S Z := fun Z z => need_mk q1 (need_mk q2 (need_mk q3 (need_mk q4 (need_mk q1 (need_mk q2 (need_mk q3 (need_mk q4 z)))))))
  refine hlw _ (tqT_mk (lwZ_mk (tqT_mk (lwZ_mk (tqT_mk (need_mk (okZ_iff.2 h.z3) (need_mk (okTc_iff.2 (ccl_fn h.c)) (tqT_mk (pick_f hne (tqT_mk (pick_f (decide_eq_false (by omega)) (pick_f (decide_eq_false (by omega)) (tqT_mk (tqT_mk (need_mk ?_ ?_))))))))))) h.k2)) h.k1))
  · rw [t4.1, t5.1, t4.2, t5.2]
    have := okTc_iff.2 (ccd_fn h.c h.c.2.2.2.2.2.1)
    rw [this]; rfl
  · exact lwZ_mkB (lwZ_mkB hE h.k4) h.k5
theorem someLW : Tryz.f3.body.isSome = true := by kernel_rfl
theorem fnl {xs : Array Value} {D : Tld} {L : List S4} {R : List R3} {A S : Value} {m1 m2 m4 m5 m6 m7 : Sh} (h : TldOK xs D A S L R m1 m2 m4 m5 m6 m7) (he : ffn Tryz.prog (SLw D A S m1 m2 m4 m5 m6 m7) [] 3000 [] Tryz.f3 [fz xs] h0 (fun v _ => v = .bool true) = lwT xs D A S m1 m2 m4 m5 m6 m7 (fun v => v = .bool true)) :
    FnOK 0 Tryz.prog 3 ⟨[fz xs]⟩ h0 (fun v _ => v = .bool true) := FnOK.ftree (law_ok h) mixed Tryz.func3 someLW he (lwT_ok h)
theorem mk_sh {f : FuncId} {xs : List Value} {t : TypeId} {m w : Nat} (h : Made f xs t m w) : ∃ s, ShM f xs t m w s := by
  rcases h with ⟨e, h⟩ | ⟨n, c, cs, h⟩
  · exact ⟨.nl e, h⟩
  · exact ⟨.rw n c cs, h⟩
theorem law_all (zs : List Int) : FnOK 0 Tryz.prog 3 ⟨[fz (intsV zs)]⟩ h0 (fun v _ => v = .bool true) := by
  have hX := rsW_ok zs (d := 0) (by omega) (by omega)
  have hx3 := rsW_p3 (intsV zs) 0
  have hgX := scopes_w zs 0 (by omega) (by omega)
  have he := scE_in zs (d := 0) (by omega) (by omega)
  generalize rsW (intsV zs) 0 = X at hX hx3 hgX
  generalize scE (intsV zs) 0 = d1 at hgX he
  obtain ⟨L, d2, hL, e1, e2, hgS⟩ := rsg_fn zs (d := d1) (by omega) (by omega)
  obtain ⟨i, s, g, p, A, S, f, t, d3, hc, e3, e4, hgC⟩ := rcl_fn zs (d := d2) (by omega) (by omega)
  obtain ⟨R, d4, h4, hin, e5, e6, hgR⟩ := rev_fn zs (d := d3) (by omega) (by omega)
  obtain ⟨n3, c3, r3, k3, z3⟩ := ro_fn L hL
  obtain ⟨m6, k6⟩ := mk_sh (rvk_fn hc R h4 hin)
  obtain ⟨m7, k7⟩ := mk_sh (pr_fn R h4 hin)
  have hA := hc.2.2.2.2.1
  have hS := hc.2.2.2.2.2.1
  have pC : p3 (clm i s g p A S f t) = true := by
    have := p2_clm (i := i) (s := s) (g := g) (p := p) (f := f) (t := t) hA hS
    have e : p2 (clm i s g p A S f t) = true := by simpa using this
    exact e
  have mk : ∀ {m1 m2 m4 m5 : Sh}, ShM 9 [X] 9 9 1 m1 → ShM 11 [X, X] 9 9 1 m2 → ShB 41 [A] A m4 → ShB 33 [S] S m5 → TldOK (intsV zs) ⟨X, sgW L, rvW R, i, s, g, p, f, t, d1, d2, d3, d4, n3, c3, r3⟩ A S L R m1 m2 m4 m5 m6 m7 := fun a b c d =>
    ⟨⟨rfl, hx3, hgX⟩, ⟨rfl, p1_p3a (sgW_p1 L), hgS⟩, ⟨rfl, pC, hgC⟩, ⟨rfl, p1_p3a (rvW_p1 R), hgR⟩, hX, rfl, hL, rfl, h4, hc, a, b, k3, z3, c, d, k6, k7⟩
  have cA : (A = .slice none 0 0 ∧ ShB 41 [A] A (.nl 0)) ∨ ∃ us n c cs, A = fz ⟨us⟩ ∧ ShB 41 [A] A (.rw n c cs) := by
    unfold okAud at hA
    split at hA
    · exact .inl ⟨rfl, rfl, cln_fn⟩
    · obtain ⟨n, c, cs, h1, h2, h3⟩ := clr_fn hA
      exact .inr ⟨_, n, c, cs, rfl, h1, h2, _, rfl, h3⟩
    · cases hA
  have cS : (S = .slice none 0 0 ∧ ShB 33 [S] S (.nl 0)) ∨ ∃ us n c cs, S = fz ⟨us⟩ ∧ ShB 33 [S] S (.rw n c cs) := by
    unfold okSc at hS
    split at hS
    · exact .inl ⟨rfl, rfl, le_nil2 _⟩
    · obtain ⟨l1, l2, l3⟩ := lstB_iff.1 hS
      obtain ⟨n, c, cs, h1, h2, h3⟩ := le_row (fourR_nine l1).1 l2
      exact .inr ⟨_, n, c, cs, rfl, h1, h2, _, rfl, by rwa [l3] at h3⟩
    · cases hS
  clear k3 z3 hgX hgS hgC hgR
  rcases cA with ⟨hA', a4⟩ | ⟨us, n4, c4, r4, hA', a4⟩
  · rcases cS with ⟨hS', a5⟩ | ⟨ss, n5, c5, r5, hS', a5⟩
    · rcases ls_made hX with ⟨hx, b1⟩ | ⟨hx, n1, c1, r1, b1⟩
      · rcases me_made hX with ⟨_, b2⟩ | ⟨hy, _⟩
        · have h := mk (m1 := .nl 0) (m2 := .nl 0) b1 b2 a4 a5
          subst hA' hS'
          cases m6 with
          | nl e6 => cases m7 with
            | nl e7 => exact fnl h (lwNNNNN _ (intsV zs) 0 0 0 0 e6 e7 (fun v => v = .bool true))
            | rw n7 c7 r7 => exact fnl h (lwNNNNR _ (intsV zs) 0 0 0 0 e6 n7 c7 r7 (fun v => v = .bool true))
          | rw n6 c6 r6 => cases m7 with
            | nl e7 => exact fnl h (lwNNNRN _ (intsV zs) 0 0 0 0 n6 c6 r6 e7 (fun v => v = .bool true))
            | rw n7 c7 r7 => exact fnl h (lwNNNRR _ (intsV zs) 0 0 0 0 n6 c6 r6 n7 c7 r7 (fun v => v = .bool true))
        · exact absurd hx hy
      · rcases me_made hX with ⟨hy, _⟩ | ⟨_, n2, c2, r2, b2⟩
        · exact absurd hy hx
        · have h := mk (m1 := .rw n1 c1 r1) (m2 := .rw n2 c2 r2) b1 b2 a4 a5
          subst hA' hS'
          cases m6 with
          | nl e6 => cases m7 with
            | nl e7 => exact fnl h (lwRNNNN _ (intsV zs) n1 c1 r1 n2 c2 r2 0 0 e6 e7 (fun v => v = .bool true))
            | rw n7 c7 r7 => exact fnl h (lwRNNNR _ (intsV zs) n1 c1 r1 n2 c2 r2 0 0 e6 n7 c7 r7 (fun v => v = .bool true))
          | rw n6 c6 r6 => cases m7 with
            | nl e7 => exact fnl h (lwRNNRN _ (intsV zs) n1 c1 r1 n2 c2 r2 0 0 n6 c6 r6 e7 (fun v => v = .bool true))
            | rw n7 c7 r7 => exact fnl h (lwRNNRR _ (intsV zs) n1 c1 r1 n2 c2 r2 0 0 n6 c6 r6 n7 c7 r7 (fun v => v = .bool true))
    · rcases ls_made hX with ⟨hx, b1⟩ | ⟨hx, n1, c1, r1, b1⟩
      · rcases me_made hX with ⟨_, b2⟩ | ⟨hy, _⟩
        · have h := mk (m1 := .nl 0) (m2 := .nl 0) b1 b2 a4 a5
          subst hA' hS'
          cases m6 with
          | nl e6 => cases m7 with
            | nl e7 => exact fnl h (lwNNRNN _ (intsV zs) ss 0 0 0 n5 c5 r5 e6 e7 (fun v => v = .bool true))
            | rw n7 c7 r7 => exact fnl h (lwNNRNR _ (intsV zs) ss 0 0 0 n5 c5 r5 e6 n7 c7 r7 (fun v => v = .bool true))
          | rw n6 c6 r6 => cases m7 with
            | nl e7 => exact fnl h (lwNNRRN _ (intsV zs) ss 0 0 0 n5 c5 r5 n6 c6 r6 e7 (fun v => v = .bool true))
            | rw n7 c7 r7 => exact fnl h (lwNNRRR _ (intsV zs) ss 0 0 0 n5 c5 r5 n6 c6 r6 n7 c7 r7 (fun v => v = .bool true))
        · exact absurd hx hy
      · rcases me_made hX with ⟨hy, _⟩ | ⟨_, n2, c2, r2, b2⟩
        · exact absurd hy hx
        · have h := mk (m1 := .rw n1 c1 r1) (m2 := .rw n2 c2 r2) b1 b2 a4 a5
          subst hA' hS'
          cases m6 with
          | nl e6 => cases m7 with
            | nl e7 => exact fnl h (lwRNRNN _ (intsV zs) ss n1 c1 r1 n2 c2 r2 0 n5 c5 r5 e6 e7 (fun v => v = .bool true))
            | rw n7 c7 r7 => exact fnl h (lwRNRNR _ (intsV zs) ss n1 c1 r1 n2 c2 r2 0 n5 c5 r5 e6 n7 c7 r7 (fun v => v = .bool true))
          | rw n6 c6 r6 => cases m7 with
            | nl e7 => exact fnl h (lwRNRRN _ (intsV zs) ss n1 c1 r1 n2 c2 r2 0 n5 c5 r5 n6 c6 r6 e7 (fun v => v = .bool true))
            | rw n7 c7 r7 => exact fnl h (lwRNRRR _ (intsV zs) ss n1 c1 r1 n2 c2 r2 0 n5 c5 r5 n6 c6 r6 n7 c7 r7 (fun v => v = .bool true))
  · rcases cS with ⟨hS', a5⟩ | ⟨ss, n5, c5, r5, hS', a5⟩
    · rcases ls_made hX with ⟨hx, b1⟩ | ⟨hx, n1, c1, r1, b1⟩
      · rcases me_made hX with ⟨_, b2⟩ | ⟨hy, _⟩
        · have h := mk (m1 := .nl 0) (m2 := .nl 0) b1 b2 a4 a5
          subst hA' hS'
          cases m6 with
          | nl e6 => cases m7 with
            | nl e7 => exact fnl h (lwNRNNN _ (intsV zs) us 0 0 n4 c4 r4 0 e6 e7 (fun v => v = .bool true))
            | rw n7 c7 r7 => exact fnl h (lwNRNNR _ (intsV zs) us 0 0 n4 c4 r4 0 e6 n7 c7 r7 (fun v => v = .bool true))
          | rw n6 c6 r6 => cases m7 with
            | nl e7 => exact fnl h (lwNRNRN _ (intsV zs) us 0 0 n4 c4 r4 0 n6 c6 r6 e7 (fun v => v = .bool true))
            | rw n7 c7 r7 => exact fnl h (lwNRNRR _ (intsV zs) us 0 0 n4 c4 r4 0 n6 c6 r6 n7 c7 r7 (fun v => v = .bool true))
        · exact absurd hx hy
      · rcases me_made hX with ⟨hy, _⟩ | ⟨_, n2, c2, r2, b2⟩
        · exact absurd hy hx
        · have h := mk (m1 := .rw n1 c1 r1) (m2 := .rw n2 c2 r2) b1 b2 a4 a5
          subst hA' hS'
          cases m6 with
          | nl e6 => cases m7 with
            | nl e7 => exact fnl h (lwRRNNN _ (intsV zs) us n1 c1 r1 n2 c2 r2 n4 c4 r4 0 e6 e7 (fun v => v = .bool true))
            | rw n7 c7 r7 => exact fnl h (lwRRNNR _ (intsV zs) us n1 c1 r1 n2 c2 r2 n4 c4 r4 0 e6 n7 c7 r7 (fun v => v = .bool true))
          | rw n6 c6 r6 => cases m7 with
            | nl e7 => exact fnl h (lwRRNRN _ (intsV zs) us n1 c1 r1 n2 c2 r2 n4 c4 r4 0 n6 c6 r6 e7 (fun v => v = .bool true))
            | rw n7 c7 r7 => exact fnl h (lwRRNRR _ (intsV zs) us n1 c1 r1 n2 c2 r2 n4 c4 r4 0 n6 c6 r6 n7 c7 r7 (fun v => v = .bool true))
    · rcases ls_made hX with ⟨hx, b1⟩ | ⟨hx, n1, c1, r1, b1⟩
      · rcases me_made hX with ⟨_, b2⟩ | ⟨hy, _⟩
        · have h := mk (m1 := .nl 0) (m2 := .nl 0) b1 b2 a4 a5
          subst hA' hS'
          cases m6 with
          | nl e6 => cases m7 with
            | nl e7 => exact fnl h (lwNRRNN _ (intsV zs) us ss 0 0 n4 c4 r4 n5 c5 r5 e6 e7 (fun v => v = .bool true))
            | rw n7 c7 r7 => exact fnl h (lwNRRNR _ (intsV zs) us ss 0 0 n4 c4 r4 n5 c5 r5 e6 n7 c7 r7 (fun v => v = .bool true))
          | rw n6 c6 r6 => cases m7 with
            | nl e7 => exact fnl h (lwNRRRN _ (intsV zs) us ss 0 0 n4 c4 r4 n5 c5 r5 n6 c6 r6 e7 (fun v => v = .bool true))
            | rw n7 c7 r7 => exact fnl h (lwNRRRR _ (intsV zs) us ss 0 0 n4 c4 r4 n5 c5 r5 n6 c6 r6 n7 c7 r7 (fun v => v = .bool true))
        · exact absurd hx hy
      · rcases me_made hX with ⟨hy, _⟩ | ⟨_, n2, c2, r2, b2⟩
        · exact absurd hy hx
        · have h := mk (m1 := .rw n1 c1 r1) (m2 := .rw n2 c2 r2) b1 b2 a4 a5
          subst hA' hS'
          cases m6 with
          | nl e6 => cases m7 with
            | nl e7 => exact fnl h (lwRRRNN _ (intsV zs) us ss n1 c1 r1 n2 c2 r2 n4 c4 r4 n5 c5 r5 e6 e7 (fun v => v = .bool true))
            | rw n7 c7 r7 => exact fnl h (lwRRRNR _ (intsV zs) us ss n1 c1 r1 n2 c2 r2 n4 c4 r4 n5 c5 r5 e6 n7 c7 r7 (fun v => v = .bool true))
          | rw n6 c6 r6 => cases m7 with
            | nl e7 => exact fnl h (lwRRRRN _ (intsV zs) us ss n1 c1 r1 n2 c2 r2 n4 c4 r4 n5 c5 r5 n6 c6 r6 e7 (fun v => v = .bool true))
            | rw n7 c7 r7 => exact fnl h (lwRRRRR _ (intsV zs) us ss n1 c1 r1 n2 c2 r2 n4 c4 r4 n5 c5 r5 n6 c6 r6 n7 c7 r7 (fun v => v = .bool true))
end Go.Proofs.YtklednomnpghcaaGreatDoor
