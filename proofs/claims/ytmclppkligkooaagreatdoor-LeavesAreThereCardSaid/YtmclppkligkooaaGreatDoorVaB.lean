/-
  Values: how many there are in one, and how deep: what the code counts.
-/
import Derived.Test.YtmclppkligkooaaGreatDoorVaA
namespace Go.Proofs.YtmclppkligkooaaGreatDoor
open Go.Ev Go.RowKit

theorem spLg_none : SpOK (spLg undef 0 1000000000) := by
  intro f args h v h' hs
  unfold spLg at hs
  obtain ⟨hf, hs2⟩ := cond_some hs
  split at hs2
  · split at hs2
    · injection hs2 with hs2
      injection hs2 with hb hs2
      simp only [Bool.and_eq_true, decide_eq_true_eq] at hb
      omega
    · cases hs2
  · cases hs2
def Lg (m : Nat) (x : Value) (k : Nat) : Prop := x = e6 x ∧ SpOK (spLg x (k : Int) (m : Int))
def sumK : List (Value × Nat) → Nat
  | [] => 0
  | p :: l => p.2 + sumK l
theorem nnC (c : Int) : NoNames (ctO c) := fun v hv => by
  simp at hv
  subst hv; rfl
theorem elV_at {xs : List Value} {i : Nat} {x : Value} {l : List Value} (h : xs.drop i = x :: l) : elV xs (i : Int) = x := by
  have : xs[i]? = some x := by rw [← List.head?_drop, h]; rfl
  show xs.getD i _ = x
  rw [List.getD_eq_getElem?_getD, this]; rfl
theorem wrapS {i : Nat} (h : i ≤ 1000000) : IntKind.i64.wrap ((i : Int) + 1) = ((i + 1 : Nat) : Int) := by rw [wrap_id _ (by omega) (by omega)]; rfl
theorem lg1_loop {m d : Nat} {bx : List Value} (hbx : NoNames (bxO bx)) (hd : d + 1 + m ≤ 50) (K : AExit → List Value → AH → Prop) (xs : List Value) (hl : xs.length ≤ 5000) : ∀ (zs : List (Value × Nat)) (i c : Nat), xs.drop i = zs.map (·.1) → i + zs.length = xs.length → (∀ p ∈ zs, Lg m p.1 p.2) → c + sumK zs ≤ 5000 →
    K (.exit 0) [p0V, .int .i64 (d : Int), p1V, anyV] (lgH ((c + sumK zs : Nat) : Int) bx) →
    iterE 1 Tryz.prog 54 [0, 2, 4, 28, 29, 30] [0, 1] [0, 2, 4, 6] [0, 1] (oneLoop (codeOf Tryz.f29) 5) (zs.length + 1) [p0V, .int .i64 (d : Int), p1V, fz ⟨xs⟩, .int .i64 (xs.length : Int), .int .i64 (i : Int)] (lgH (c : Int) bx) K
  | [], i, c, _, h2, _, _, hK => ⟨SLg undef 0 1000000000, [], noHooks, 600, spLg_none.cfg, loops_none _ _ _ _, (lg1 undef 0 1000000000 _ _ _ _ xs bx _ K).mpr (pick_f (decide_eq_false (by simp at h2; omega)) ⟨nnC _, hbx, hK⟩)⟩
  | (x, k) :: zs, i, c, h1, h2, h3, h4, hK => by
    have e := elV_at h1
    obtain ⟨g1, g2⟩ := h3 (x, k) (by simp)
    have g1 : x = e6 x := g1
    have h2 : i + (zs.length + 1) = xs.length := h2
    have h4 : c + (k + sumK zs) ≤ 5000 := h4
    refine ⟨SLg x (k : Int) (m : Int), [], noHooks, 600, g2.cfg, loops_none _ _ _ _, (lg1 x (k : Int) (m : Int) _ _ _ _ xs bx _ K).mpr ?_⟩
    refine pick_t (decide_eq_true (by omega)) (need_mk ?_ ?_)
    · simp only [Bool.and_eq_true, decide_eq_true_eq]
      exact ⟨⟨by omega, by simp; omega⟩, rfl⟩
    · rw [e, ← g1]
      refine ⟨rfl, need_mk ?_ ⟨nnC _, hbx, ?_⟩⟩
      · rw [eqV_self, wrapS (by omega)]
        simp only [Bool.and_eq_true, decide_eq_true_eq]
        refine ⟨⟨⟨⟨⟨⟨?_, ?_⟩, ?_⟩, ?_⟩, ?_⟩, ?_⟩, ?_⟩ <;> first | trivial | rfl | omega
      · rw [wrapS (by omega)]
        refine lg1_loop hbx hd K xs hl zs (i + 1) (c + k) ?_ (by omega) (fun p hp => h3 p (by simp [hp])) (by omega) ?_
        · rw [← List.drop_drop, h1]; rfl
        · have : c + k + sumK zs = c + sumK ((x, k) :: zs) := by rw [sumK]; omega
          rw [this]; exact hK
theorem lg2_loop {m d : Nat} (hd : d + 1 + m ≤ 50) (K : AExit → List Value → AH → Prop) (xs : List Value) (hl : xs.length ≤ 5000) : ∀ (zs : List (Value × Nat)) (i c : Nat), xs.drop i = zs.map (·.1) → i + zs.length = xs.length → (∀ p ∈ zs, p.1 = e7 p.1 ∧ Lg m (m6 p.1) p.2) → c + sumK zs ≤ 5000 →
    K (.exit 2) [p0V, .int .i64 (d : Int), anyV] (lgJ ((c + sumK zs : Nat) : Int)) →
    iterE 1 Tryz.prog 54 [0, 2, 41, 42, 43] [0] [0, 2, 6] [0] (oneLoop (codeOf Tryz.f29) 11) (zs.length + 1) [p0V, .int .i64 (d : Int), fz ⟨xs⟩, .int .i64 (xs.length : Int), .int .i64 (i : Int)] (lgJ (c : Int)) K
  | [], i, c, _, h2, _, _, hK => ⟨SLg undef 0 1000000000, [], noHooks, 600, spLg_none.cfg, loops_none _ _ _ _, (lg2 undef 0 1000000000 _ _ _ _ xs _ K).mpr (pick_f (decide_eq_false (by simp at h2; omega)) ⟨nnC _, hK⟩)⟩
  | (x, k) :: zs, i, c, h1, h2, h3, h4, hK => by
    have e := elV_at h1
    obtain ⟨g1, _, g2⟩ := h3 (x, k) (by simp)
    have g1 : x = e7 x := g1
    have h2 : i + (zs.length + 1) = xs.length := h2
    have h4 : c + (k + sumK zs) ≤ 5000 := h4
    refine ⟨SLg (m6 x) (k : Int) (m : Int), [], noHooks, 600, g2.cfg, loops_none _ _ _ _, (lg2 (m6 x) (k : Int) (m : Int) _ _ _ _ xs _ K).mpr ?_⟩
    refine pick_t (decide_eq_true (by omega)) (need_mk ?_ ?_)
    · simp only [Bool.and_eq_true, decide_eq_true_eq]
      exact ⟨⟨by omega, by simp; omega⟩, rfl⟩
    · rw [e, ← g1]
      refine ⟨rfl, need_mk ?_ ⟨nnC _, ?_⟩⟩
      · rw [eqV_self, wrapS (by omega)]
        simp only [Bool.and_eq_true, decide_eq_true_eq]
        refine ⟨⟨⟨⟨⟨⟨?_, ?_⟩, ?_⟩, ?_⟩, ?_⟩, ?_⟩, ?_⟩ <;> first | trivial | rfl | omega
      · rw [wrapS (by omega)]
        refine lg2_loop hd K xs hl zs (i + 1) (c + k) ?_ (by omega) (fun p hp => h3 p (by simp [hp])) (by omega) ?_
        · rw [← List.drop_drop, h1]; rfl
        · have : c + k + sumK zs = c + sumK ((x, k) :: zs) := by rw [sumK]; omega
          rw [this]; exact hK

/-- A function that changes one block of plain values, and hands back something plain. -/
theorem updP {f : FuncId} {cs cs' : List Value} {t : TypeId} {fr fr' : Nat × Nat} {b : Nat} {rest : List Value} {H : AH} {u : Value}
    (hF : FnOK 1 Tryz.prog f ⟨.pointer (some ⟨0, 0, none⟩) :: rest⟩ ⟨1, 1, [(0, .cells ⟨cs⟩ t fr)]⟩ (fun v g => v = u ∧ g.get 0 = some (.cells ⟨cs'⟩ t fr')))
    (hu : ∀ r, ren2 r u = some u) (hr : ∀ r, ren2s r rest = some rest) (hp : ∀ x ∈ cs, p1 x = true) (hp' : ∀ x ∈ cs', p1 x = true) (hb : H.get b = some (.cells ⟨cs⟩ t fr)) (hlt : Nat.blt b H.next = true) :
    CallOK Tryz.prog f ⟨.pointer (some ⟨b, 0, none⟩) :: rest⟩ H u (H.set b (.cells ⟨cs'⟩ t fr')) := by
  have hset : (H.set b (.cells ⟨cs'⟩ t fr')).get b = some (.cells ⟨cs'⟩ t fr') := look_setB_self hb
  have hne : ∀ a, a ≠ b → (H.set b (.cells ⟨cs'⟩ t fr')).get a = H.get a := fun a ha => look_setB_ne ha _ H.blocks
  refine FnOK.frame (r := [(b, 0)]) (q := [(0, b)]) (bl := [(0, .cells ⟨cs⟩ t fr)]) (bl' := [(0, .cells ⟨cs'⟩ t fr')]) (nx := 1) (lw := 1) (u := u) (small := .pointer (some ⟨0, 0, none⟩) :: rest)
    (by simp [renOk, renB, invB, eqO]) (by simp [ren2s, ren2, ren1, ren0, renB, hr]) ?_ ?_ ?_ ?_ (hu _) ?_ ?_ (Nat.le_refl _) (Nat.min_le_left _ _) ?_
  · intro i o hi
    unfold Ev.look at hi
    obtain ⟨h1, h2⟩ := cond_some hi
    cases h2
    have := Nat.eq_of_beq_eq_true h1
    subst this
    exact ⟨b, _, true, by simp, hb, rfl, fun _ x hx => hp x (by simpa using hx)⟩
  · refine FnOK.weak1 (hF.mono ?_)
    rintro v g ⟨rfl, hg⟩
    refine ⟨_, _, Weak.norm [true] [(0, 0)] [0] 1 rfl rfl (by simp [renT, hu]) (bl := [(0, .cells ⟨cs'⟩ t fr')]) (by simp [renH, hg, renO]) ?_, rfl, rfl⟩
    intro a ha o ho
    simp only [List.mem_singleton] at ha
    subst ha
    rw [hg] at ho
    cases ho
    exact fun x hx => hp' x (by simpa using hx)
  · have hlt : Nat.blt b (H.set b (.cells ⟨cs'⟩ t fr')).next = true := hlt
    simp [renOk, renB, invB, eqO, hlt]
  · intro i a h
    simp only [List.mem_singleton, Prod.mk.injEq] at h
    obtain ⟨rfl, rfl⟩ := h
    exact .inl ⟨by simp, by rw [hb]; rfl⟩
  · intro a o2 ha
    by_cases hab : a = b
    · subst hab
      rw [hset] at ha
      cases ha
      exact .inr ⟨0, _, true, by simp, rfl, rfl, fun _ x hx => hp' x (by simpa using hx)⟩
    · rw [hne a hab] at ha
      exact .inl ⟨ha, fun i hi => by simp only [List.mem_singleton, Prod.mk.injEq] at hi; exact hab hi.1⟩
  · intro hids a o ha
    by_cases hab : a = b
    · subst hab
      exact hids a _ hb
    · rw [hne a hab] at ha
      exact hids a o ha
  · intro i _ hlow
    have hlow : i < min H.low b := hlow
    exact hne i (by omega)
theorem nnX (k : Int) (f : Bool) (n : Int) (s : ByteArray) (xs ys : List Value) : NoNames (bxO [.int .i64 k, .bool f, .int .i64 n, .string s, fz ⟨xs⟩, fz ⟨ys⟩]) := fun v hv => by
  simp at hv
  rcases hv with rfl | rfl | rfl | rfl | rfl | rfl <;> rfl
set_option maxRecDepth 20000 in
theorem lg_fn {m d c : Nat} (k : Int) (f : Bool) (n : Int) (s : ByteArray) (xs ys : List (Value × Nat)) (hx : ∀ p ∈ xs, Lg m p.1 p.2) (hy : ∀ p ∈ ys, p.1 = e7 p.1 ∧ Lg m (m6 p.1) p.2) (hlx : xs.length ≤ 5000) (hly : ys.length ≤ 5000)
    (hc : c + 1 + sumK xs + sumK ys ≤ 5000) (hd : d + 1 + m ≤ 50) : FnOK 1 Tryz.prog 29 ⟨[p0V, vV k f n s (xs.map (·.1)) (ys.map (·.1)), .int .i64 (d : Int)]⟩ (cH (c : Int)) (fun v g => v = .bool false ∧ g.get 0 = some (ctO ((c + (1 + sumK xs + sumK ys) : Nat) : Int))) := by
  have hA : LSpec 1 Tryz.prog 54 (oneLoop (codeOf Tryz.f29) 5) (hookLS 1 54 [0, 2, 4, 28, 29, 30] [0, 1] [0, 2, 4, 6] (fun vals h K => (vals = [p0V, .int .i64 (d : Int), p1V, fz ⟨xs.map (·.1)⟩, .int .i64 ((Array.mk (xs.map (·.1))).size : Int), .int .i64 0] ∧ h = lgH ((c + 1 : Nat) : Int) [.int .i64 k, .bool f, .int .i64 n, .string s, fz ⟨xs.map (·.1)⟩, fz ⟨ys.map (·.1)⟩]) ∧
      K (.exit 0) [p0V, .int .i64 (d : Int), p1V, anyV] (lgH ((c + 1 + sumK xs : Nat) : Int) [.int .i64 k, .bool f, .int .i64 n, .string s, fz ⟨xs.map (·.1)⟩, fz ⟨ys.map (·.1)⟩]))) := by
    refine hookE_ok (sameX := [0, 1]) mixed (by decide) ?_
    rintro vals h K ⟨⟨rfl, rfl⟩, hK⟩
    exact ⟨_, lg1_loop (nnX _ _ _ _ _ _) hd K (xs.map (·.1)) (by simpa using hlx) xs 0 (c + 1) rfl (by simp) hx (by omega) hK⟩
  have hB : LSpec 1 Tryz.prog 54 (oneLoop (codeOf Tryz.f29) 11) (hookLS 1 54 [0, 2, 41, 42, 43] [0] [0, 2, 6] (fun vals h K => (vals = [p0V, .int .i64 (d : Int), fz ⟨ys.map (·.1)⟩, .int .i64 ((Array.mk (ys.map (·.1))).size : Int), .int .i64 0] ∧ h = lgJ ((c + 1 + sumK xs : Nat) : Int)) ∧
      K (.exit 2) [p0V, .int .i64 (d : Int), anyV] (lgJ ((c + 1 + sumK xs + sumK ys : Nat) : Int)))) := by
    refine hookE_ok (sameX := [0]) mixed (by decide) ?_
    rintro vals h K ⟨⟨rfl, rfl⟩, hK⟩
    exact ⟨_, lg2_loop hd K (ys.map (·.1)) (by simpa using hly) ys 0 (c + 1 + sumK xs) rfl (by simp) hy (by omega) hK⟩
  have e := lg0 k n (c : Int) ((c + 1 + sumK xs : Nat) : Int) ((c + 1 + sumK xs + sumK ys : Nat) : Int) (d : Int) f s (xs.map (·.1)) (ys.map (·.1)) (fun vals h => vals = [p0V, .int .i64 (d : Int), p1V, fz ⟨xs.map (·.1)⟩, .int .i64 ((Array.mk (xs.map (·.1))).size : Int), .int .i64 0] ∧ h = lgH ((c + 1 : Nat) : Int) [.int .i64 k, .bool f, .int .i64 n, .string s, fz ⟨xs.map (·.1)⟩, fz ⟨ys.map (·.1)⟩]) (fun vals h => vals = [p0V, .int .i64 (d : Int), fz ⟨ys.map (·.1)⟩, .int .i64 ((Array.mk (ys.map (·.1))).size : Int), .int .i64 0] ∧ h = lgJ ((c + 1 + sumK xs : Nat) : Int)) (fun v g => v = .bool false ∧ g.get 0 = some (ctO ((c + (1 + sumK xs + sumK ys) : Nat) : Int)))
  refine FnOK.ttree SP0_ok mixed Tryz.func29 someLG (loops_or (loops_one oneLG5 hA) (loops_one oneLG11 hB)) e ?_
  have w : IntKind.i64.wrap ((c : Int) + 1) = ((c + 1 : Nat) : Int) := wrapS (by omega)
  clear e hA hB
  rw [w]
  refine pick_f (decide_eq_false (by omega)) ?_
  refine pick_f (show decide ((d : Int) > 50) = false from decide_eq_false (by omega)) ?_
  refine ⟨nnC _, nnX _ _ _ _ _ _, ⟨rfl, rfl⟩, nnC _, ⟨rfl, rfl⟩, rfl, ?_⟩
  have e2 : c + 1 + sumK xs + sumK ys = c + (1 + sumK xs + sumK ys) := by omega
  show some (ctO ((c + 1 + sumK xs + sumK ys : Nat) : Int)) = _
  rw [e2]
theorem sumK_len : ∀ {l : List (Value × Nat)}, (∀ p ∈ l, 1 ≤ p.2) → l.length ≤ sumK l
  | [], _ => Nat.le_refl _
  | p :: l, h => by
    have h1 := h p (by simp)
    have h2 := sumK_len (l := l) fun q hq => h q (by simp [hq])
    rw [List.length_cons, sumK]; omega
theorem lg_step {m : Nat} (k : Int) (f : Bool) (n : Int) (s : ByteArray) (xs ys : List (Value × Nat)) (hx : ∀ p ∈ xs, 1 ≤ p.2 ∧ Lg m p.1 p.2) (hy : ∀ p ∈ ys, 1 ≤ p.2 ∧ p.1 = e7 p.1 ∧ Lg m (m6 p.1) p.2) :
    Lg (m + 1) (vV k f n s (xs.map (·.1)) (ys.map (·.1))) (1 + sumK xs + sumK ys) := by
  refine ⟨rfl, ?_⟩
  intro g args h v h' hs
  unfold spLg at hs
  obtain ⟨hf, hs2⟩ := cond_some hs
  clear hs
  have := Nat.eq_of_beq_eq_true hf
  subst this
  split at hs2
  · rename_i b y d
    split at hs2
    · rename_i c t hg
      injection hs2 with hs
      injection hs with hb hs
      injection hs with hv hh
      subst hv hh
      simp only [Bool.and_eq_true, decide_eq_true_eq] at hb
      obtain ⟨⟨⟨⟨⟨⟨b1, b2⟩, b3⟩, b4⟩, b5⟩, b6⟩, b7⟩ := hb
      have b1 := eqV_eq b1
      have b2 := Nat.eq_of_beq_eq_true b2
      subst b1 b2
      obtain ⟨c, rfl⟩ := Int.eq_ofNat_of_zero_le b3
      obtain ⟨d, rfl⟩ := Int.eq_ofNat_of_zero_le b5
      have l1 := sumK_len fun p hp => (hx p hp).1
      have l2 := sumK_len fun p hp => (hy p hp).1
      have hF := lg_fn (d := d) (c := c) k f n s xs ys (fun p hp => (hx p hp).2) (fun p hp => (hy p hp).2) (by omega) (by omega) (by omega) (by omega)
      have e : (c : Int) + ((1 + sumK xs + sumK ys : Nat) : Int) = ((c + (1 + sumK xs + sumK ys) : Nat) : Int) := by omega
      rw [e]
      exact ⟨updP (rest := [vV k f n s (xs.map (·.1)) (ys.map (·.1)), .int .i64 (d : Int)]) hF (fun _ => rfl) (fun _ => rfl) (by simp [p1]) (by simp [p1]) hg b7, Nat.le_refl _⟩
    · cases hs2
  · cases hs2
end Go.Proofs.YtmclppkligkooaaGreatDoor
