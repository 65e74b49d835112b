/-
  Limits: rows of pieces: what passes, what comes, sums, waits as specifications.
-/
import Derived.Test.YtbigicdojndnjaaGreatDoorLmD
namespace Go.Proofs.YtbigicdojndnjaaGreatDoor
open Go.Ev Go.RowKit LimLaw

/-- A function that changes one block of plain values, and hands back its slice. -/
theorem upd1 {f : FuncId} {cs cs' : List Value} {t : TypeId} {fr fr' : Nat × Nat} {n c k b : Nat} {rest : List Value} {H : AH}
    (hF : FnOK 1 Tryz.prog f ⟨.slice (some ⟨0, 0, none⟩) n c :: rest⟩ ⟨1, 1, [(0, .cells ⟨cs⟩ t fr)]⟩ (fun v g => v = .slice (some ⟨0, 0, none⟩) k k ∧ g.get 0 = some (.cells ⟨cs'⟩ t fr')))
    (hr : ren2s [(b, 0)] rest = some rest) (hp : ∀ x ∈ cs, p1 x = true) (hp' : ∀ x ∈ cs', p1 x = true) (hb : H.get b = some (.cells ⟨cs⟩ t fr)) (hlt : Nat.blt b H.next = true) :
    CallOK Tryz.prog f ⟨.slice (some ⟨b, 0, none⟩) n c :: rest⟩ H (.slice (some ⟨b, 0, none⟩) k k) (H.set b (.cells ⟨cs'⟩ t fr')) := by
  have hset : (H.set b (.cells ⟨cs'⟩ t fr')).get b = some (.cells ⟨cs'⟩ t fr') := look_setB_self hb
  have hne : ∀ a, a ≠ b → (H.set b (.cells ⟨cs'⟩ t fr')).get a = H.get a := fun a ha => look_setB_ne ha _ H.blocks
  refine FnOK.frame (r := [(b, 0)]) (q := [(0, b)]) (bl := [(0, .cells ⟨cs⟩ t fr)]) (bl' := [(0, .cells ⟨cs'⟩ t fr')]) (nx := 1) (lw := 1) (u := .slice (some ⟨0, 0, none⟩) k k) (small := .slice (some ⟨0, 0, none⟩) n c :: rest)
    (by simp [renOk, renB, invB, eqO]) (by simp [ren2s, ren2, ren1, ren0, renB, hr]) ?_ ?_ ?_ ?_ (by simp [ren2, ren1, ren0, renB]) ?_ ?_ (Nat.le_refl _) (Nat.min_le_left _ _) ?_
  · intro i o hi
    unfold Ev.look at hi
    obtain ⟨h1, h2⟩ := cond_some hi
    cases h2
    have := Nat.eq_of_beq_eq_true h1
    subst this
    exact ⟨b, _, true, by simp, hb, rfl, fun _ x hx => hp x (by simpa using hx)⟩
  · refine FnOK.weak1 (hF.mono ?_)
    rintro v g ⟨rfl, hg⟩
    refine ⟨_, _, Weak.norm [true] [(0, 0)] [0] 1 rfl rfl (by simp [renT, ren2, ren1, ren0, renB]) (bl := [(0, .cells ⟨cs'⟩ t fr')]) (by simp [renH, hg, renO]) ?_, rfl, rfl⟩
    intro a ha o ho
    simp only [List.mem_singleton] at ha
    subst ha
    rw [hg] at ho
    cases ho
    exact fun x hx => hp' x (by simpa using hx)
  · have hlt : Nat.blt b (H.set b (.cells ⟨cs'⟩ t fr')).next = true := hlt
    simp [renOk, renB, invB, eqO, hlt]
  · intro i a h
    simp only [List.mem_singleton, Prod.mk.injEq] at h
    obtain ⟨rfl, rfl⟩ := h
    exact .inl ⟨by simp, by rw [hb]; rfl⟩
  · intro a o2 ha
    by_cases hab : a = b
    · subst hab
      rw [hset] at ha
      cases ha
      exact .inr ⟨0, _, true, by simp, rfl, rfl, fun _ x hx => hp' x (by simpa using hx)⟩
    · rw [hne a hab] at ha
      exact .inl ⟨ha, fun i hi => by simp only [List.mem_singleton, Prod.mk.injEq] at hi; exact hab hi.1⟩
  · intro hids a o ha
    by_cases hab : a = b
    · subst hab
      exact hids a _ hb
    · rw [hne a hab] at ha
      exact hids a o ha
  · intro i _ hlow
    have hlow : i < min H.low b := hlow
    exact hne i (by omega)
/-! DeleteFunc -/
noncomputable def kpL (w : Int) (n : Nat) (cs : List Value) : List P2 := (rdL n cs).filter (keep w)
noncomputable def spDf (g : FuncId) (args : Array Value) (h : AH) : Option (Bool × Value × AH) :=
  cond (Nat.beq g 273) (match args with
    | ⟨[.slice (some ⟨b, 0, none⟩) n m, .func (.func c) ⟨[]⟩ ⟨[.pointer (some ⟨y, 0, none⟩)]⟩]⟩ => match h.get b, h.get y with
      | some (.cells ⟨cs⟩ t1 fr), some (.cells ⟨[.int .i64 w]⟩ t2 fr2) => some (Nat.beq t1 347 && Nat.beq t2 3 && Nat.beq fr.1 1 && Nat.beq fr.2 1 && Nat.beq fr2.1 0 && Nat.beq fr2.2 0 && Nat.beq c 274 && Nat.beq m n && okC n cs && Nat.ble n 1000 && !Nat.beq b y && Nat.blt b h.next && Nat.blt y h.next,
        .slice (some ⟨b, 0, none⟩) (kpL w n cs).length (kpL w n cs).length, h.set b (.cells ⟨(kpL w n cs).flatMap pcC⟩ 347 (1, 1)))
      | _, _ => none
    | _ => none) none
theorem spDf_ok : SpOK spDf := by
  intro f args h v h' hs
  unfold spDf at hs
  obtain ⟨hf, hs2⟩ := cond_some hs
  clear hs
  have := Nat.eq_of_beq_eq_true hf
  subst this
  split at hs2
  · split at hs2
    · rename_i b n m c y _ _ cs t1 fr w t2 fr2 hg1 hg2
      injection hs2 with hs
      injection hs with hb hs
      injection hs with hv hh
      subst hv hh
      simp only [Bool.and_eq_true, Bool.not_eq_true'] at hb
      obtain ⟨⟨⟨⟨⟨⟨⟨⟨⟨⟨⟨⟨b1, b2⟩, b3⟩, b4⟩, b5⟩, b6⟩, b7⟩, b8⟩, b9⟩, b10⟩, b11⟩, b12⟩, b13⟩ := hb
      obtain ⟨f1, f2⟩ := fr
      obtain ⟨f3, f4⟩ := fr2
      simp only at b3 b4 b5 b6
      have b1 := Nat.eq_of_beq_eq_true b1
      have b2 := Nat.eq_of_beq_eq_true b2
      have b3 := Nat.eq_of_beq_eq_true b3
      have b4 := Nat.eq_of_beq_eq_true b4
      have b5 := Nat.eq_of_beq_eq_true b5
      have b6 := Nat.eq_of_beq_eq_true b6
      have b7 := Nat.eq_of_beq_eq_true b7
      have b8 := Nat.eq_of_beq_eq_true b8
      obtain ⟨L, hL, hcs⟩ := okC_iff.1 b9
      have b10 := Nat.le_of_ble_eq_true b10
      subst b1 b2 b3 b4 b5 b6 b7 b8 hL hcs
      have hne : b ≠ y := fun q => by rw [q, Nat.beq_refl] at b11; cases b11
      have hyb : Nat.beq y b = false := by cases q : Nat.beq y b with | false => rfl | true => exact (hne (Nat.eq_of_beq_eq_true q).symm).elim
      have hbl : ∀ i o, Ev.look i (dfH (L.flatMap pcC) w).blocks = some o → (i = 0 ∧ o = .cells ⟨L.flatMap pcC⟩ 347 (1, 1)) ∨ (i = 1 ∧ o = .cells ⟨[.int .i64 w]⟩ 3 (0, 0)) := by
        intro i o ho
        match i, ho with
        | 0, ho => cases ho; exact .inl ⟨rfl, rfl⟩
        | 1, ho => cases ho; exact .inr ⟨rfl, rfl⟩
        | i + 2, ho => cases ho
      have hnny : NoNames (.cells ⟨[.int .i64 w]⟩ 3 (0, 0)) := by
        intro x hx
        have hx : x ∈ [Value.int .i64 w] := hx
        simp only [List.mem_cons, List.not_mem_nil, or_false] at hx
        rcases hx with rfl
        rfl
      have hF := df_fn b10 w
      have e : kpL w L.length (L.flatMap pcC) = L.filter (keep w) := by unfold kpL; rw [rdL_flat]
      rw [e]
      generalize hD : L.filter (keep w) = D at hF ⊢
      have hset : (h.set b (.cells ⟨D.flatMap pcC⟩ 347 (1, 1))).get b = some (.cells ⟨D.flatMap pcC⟩ 347 (1, 1)) := look_setB_self hg1
      have hsne : ∀ a, a ≠ b → (h.set b (.cells ⟨D.flatMap pcC⟩ 347 (1, 1))).get a = h.get a := fun a ha => look_setB_ne ha _ h.blocks
      refine ⟨?_, Nat.le_refl _⟩
      refine FnOK.frame (r := [(b, 0), (y, 1)]) (q := [(0, b), (1, y)]) (bl := (dfH (L.flatMap pcC) w).blocks) (bl' := (0, .cells ⟨D.flatMap pcC⟩ 347 (1, 1)) :: yH w) (lw := 0) (nx := 2) (u := .slice (some ⟨0, 0, none⟩) D.length D.length) (small := [.slice (some ⟨0, 0, none⟩) L.length L.length, clo]) (ren_two hne) ?_ ?_ hF ?_ ?_ ?_ ?_ ?_ ?_ ?_ ?_
      · simp [ren2s, ren2, ren1, ren0, renB, renL, clo, b11]
      · intro i o ho
        rcases hbl i o ho with ⟨rfl, rfl⟩ | ⟨rfl, rfl⟩
        · exact ⟨b, _, true, by simp, hg1, rfl, fun _ => nnB L 347⟩
        · exact ⟨y, _, true, by simp, hg2, rfl, fun _ => hnny⟩
      · have b12 : Nat.blt b (h.set b (.cells ⟨D.flatMap pcC⟩ 347 (1, 1))).next = true := b12
        have b13 : Nat.blt y (h.set b (.cells ⟨D.flatMap pcC⟩ 347 (1, 1))).next = true := b13
        have h2 : Nat.beq 0 1 = false := rfl
        simp [renOk, renB, invB, eqO, b11, hyb, b12, b13, h2]
      · intro i a ha
        simp only [List.mem_cons, Prod.mk.injEq, List.not_mem_nil, or_false] at ha
        rcases ha with ⟨rfl, rfl⟩ | ⟨rfl, rfl⟩
        · exact .inl ⟨by simp, by rw [hg1]; rfl⟩
        · exact .inl ⟨by simp, by rw [hg2]; rfl⟩
      · simp [ren2, ren1, ren0, renB]
      · intro a o2 ha
        by_cases hab : a = b
        · subst hab
          rw [hset] at ha
          cases ha
          exact .inr ⟨0, _, true, by simp, rfl, rfl, fun _ => nnB D 347⟩
        · rw [hsne a hab] at ha
          by_cases hay : a = y
          · subst hay
            rw [hg2] at ha
            cases ha
            exact .inr ⟨1, _, true, by simp, rfl, rfl, fun _ => hnny⟩
          · refine .inl ⟨ha, fun i hi => ?_⟩
            simp only [List.mem_cons, Prod.mk.injEq, List.not_mem_nil, or_false] at hi
            rcases hi with ⟨q, _⟩ | ⟨q, _⟩
            · exact hab q
            · exact hay q
      · intro hids a o2 ha
        by_cases hab : a = b
        · subst hab; exact hids a _ hg1
        · rw [hsne a hab] at ha; exact hids a o2 ha
      · exact Nat.le_refl _
      · exact Nat.min_le_left _ _
      · intro i _ hlow
        have hlow : i < min h.low b := hlow
        exact hsne i (by omega)
    · cases hs2
  · cases hs2
/-! pass -/
def pH (cs : List Value) : AH := ⟨1, 1, [(0, .cells ⟨cs⟩ 347 (1, 1))]⟩
noncomputable def SPd : SC := ⟨idn, spDf, true, true⟩
theorem SPd_ok : SPd.cfg.OK Tryz.prog := spDf_ok.cfg
theorem ps_eq (cs : List Value) (n : Nat) (w : Int) (Q : Value → Option Obj → Prop) : ffn Tryz.prog SPd [] 600 [] Tryz.f269 [.slice (some ⟨0, 0, none⟩) n n, .int .i64 w] (pH cs) (fun v h => Q v (h.get 0)) =
    bif Nat.beq n n && okC n cs && Nat.ble n 1000 && true && true && true then Q (.slice (some ⟨0, 0, none⟩) (kpL w n cs).length (kpL w n cs).length) (some (.cells ⟨(kpL w n cs).flatMap pcC⟩ 347 (1, 1))) else False := by kernel_rfl
theorem somePS : Tryz.f269.body.isSome = true := by kernel_rfl
theorem ps_fn {L : List P2} (hl : L.length ≤ 1000) (w : Int) : FnOK 1 Tryz.prog 269 ⟨[.slice (some ⟨0, 0, none⟩) L.length L.length, .int .i64 w]⟩ (pH (L.flatMap pcC))
    (fun v g => v = .slice (some ⟨0, 0, none⟩) (L.filter (keep w)).length (L.filter (keep w)).length ∧ g.get 0 = some (.cells ⟨(L.filter (keep w)).flatMap pcC⟩ 347 (1, 1))) := by
  have e : kpL w L.length (L.flatMap pcC) = L.filter (keep w) := by unfold kpL; rw [rdL_flat]
  refine FnOK.ftree SPd_ok mixed Tryz.func269 somePS (ps_eq (L.flatMap pcC) L.length w (fun v o => v = .slice (some ⟨0, 0, none⟩) (L.filter (keep w)).length (L.filter (keep w)).length ∧ o = some (.cells ⟨(L.filter (keep w)).flatMap pcC⟩ 347 (1, 1)))) ?_
  exact need_mk (by rw [Nat.beq_refl, okC_iff.2 ⟨L, rfl, rfl⟩, Nat.ble_eq_true_of_le hl]; rfl) (by rw [e]; exact ⟨rfl, rfl⟩)
def isInt : Value → Bool
  | .int .i64 _ => true
  | _ => false
noncomputable def spPs (g : FuncId) (args : Array Value) (h : AH) : Option (Bool × Value × AH) :=
  cond (Nat.beq g 269) (match args with
    | ⟨[.slice (some ⟨b, 0, none⟩) n m, .int .i64 w]⟩ => match h.get b with
      | some (.cells ⟨cs⟩ t1 (1, 1)) => some (Nat.beq t1 347 && Nat.beq m n && okC n cs && Nat.ble n 1000 && Nat.blt b h.next,
        .slice (some ⟨b, 0, none⟩) (kpL w n cs).length (kpL w n cs).length, h.set b (.cells ⟨(kpL w n cs).flatMap pcC⟩ 347 (1, 1)))
      | _ => none
    | _ => none) none
theorem spPs_ok : SpOK spPs := by
  intro f args h v h' hs
  unfold spPs at hs
  obtain ⟨hf, hs2⟩ := cond_some hs
  clear hs
  have := Nat.eq_of_beq_eq_true hf
  subst this
  split at hs2
  · rename_i b n m w
    split at hs2
    · rename_i cs t1 hg
      injection hs2 with hs
      injection hs with hb hs
      injection hs with hv hh
      subst hv hh
      simp only [Bool.and_eq_true, Bool.not_eq_true', decide_eq_true_eq] at hb
      obtain ⟨⟨⟨⟨b1, b2⟩, b3⟩, b4⟩, b5⟩ := hb
      have b1 := Nat.eq_of_beq_eq_true b1
      have b2 := Nat.eq_of_beq_eq_true b2
      obtain ⟨L, hL, hcs⟩ := okC_iff.1 b3
      have b4 := Nat.le_of_ble_eq_true b4
      subst b1 b2 hL hcs
      have e : kpL w L.length (L.flatMap pcC) = L.filter (keep w) := by unfold kpL; rw [rdL_flat]
      rw [e]
      exact ⟨upd1 (rest := [.int .i64 w]) (ps_fn b4 w) rfl p1_pcC p1_pcC hg b5, Nat.le_refl _⟩
    · cases hs2
  · cases hs2

/-! with: what comes at the end -/
def wiX (n : Nat) (cs : List Value) (u c : Int) (Q : Value → AH → Prop) : Prop :=
  bif (n + 1).ble n then False else bif (n + 1).ble 9223372036854775807 && ((n + 1) * 16).ble 140737488355328 then bif (0 + n * 2).ble (Array.mk cs).size && true && true then
    Q (.slice (some ⟨3, 0, none⟩) (n + 1) (n + 1)) ⟨4, 0, [(3, .cells ⟨List.take (n * 2) (List.drop 0 (Array.mk cs).toList) ++ pcC (u, c)⟩ 347 (0, 0)), (2, .cells ⟨pcC (u, c)⟩ 347 (0, 0)), (1, .cells ⟨pcC (u, c)⟩ 347 (0, 0))]⟩ else False else False
def wiI (n : Nat) (X : Prop) : Prop := bif decide (0 ≤ (n : Int)) && decide ((n : Int) ≤ (n : Int)) && decide ((n : Int) ≤ (n : Int)) then bif Nat.beq (n : Int).toNat n then bif (n : Int) == (n : Int) then X else False else bif (n : Int) == (n : Int) then X else False else False
theorem wi1 (cs : List Value) (n : Nat) (u c : Int) (Q : Value → AH → Prop) : ffn Tryz.prog SP0 [(0, true), (9, false), (8873, true)] 3000 [] Tryz.f270 [.slice (some ⟨0, 0, none⟩) n n, pcV (u, c)] (pH cs) Q =
    bif decide ((n : Int) > 0) then bif decide (0 ≤ IntKind.i64.wrap ((n : Int) - 1)) && decide (IntKind.i64.wrap ((n : Int) - 1) < (n : Int)) then bif Nat.blt (0 + (IntKind.i64.wrap ((n : Int) - 1)).toNat * 2) (Array.mk cs).size then
      (Array.mk cs).toList.getD (0 + (IntKind.i64.wrap ((n : Int) - 1)).toNat * 2) undef = .int .i64 (toInt ((Array.mk cs).toList.getD (0 + (IntKind.i64.wrap ((n : Int) - 1)).toNat * 2) undef)) ∧
      bif (bif true then decide (toInt ((Array.mk cs).toList.getD (0 + (IntKind.i64.wrap ((n : Int) - 1)).toNat * 2) undef) > u) else false) then False else wiI n (wiX n cs u c Q)
    else False else False else False := by kernel_rfl
theorem wi0 (cs : List Value) (n : Nat) (u c : Int) (Q : Value → AH → Prop) : ffn Tryz.prog SP0 [(0, false), (280658, true)] 3000 [] Tryz.f270 [.slice (some ⟨0, 0, none⟩) n n, pcV (u, c)] (pH cs) Q =
    bif decide ((n : Int) > 0) then False else wiI n (wiX n cs u c Q) := by kernel_rfl
theorem somePW : Tryz.f270.body.isSome = true := by kernel_rfl
def wiG (L : List P2) (u c : Int) (x : Nat) : List (Nat × Obj) := [(3, .cells ⟨(L ++ [(u, c)]).flatMap pcC⟩ 347 (x, x)), (2, .cells ⟨pcC (u, c)⟩ 347 (0, 0)), (1, .cells ⟨pcC (u, c)⟩ 347 (0, 0))]
theorem take_pcC (L : List P2) : List.take (L.length * 2) (List.drop 0 (Array.mk (L.flatMap pcC)).toList) = L.flatMap pcC := by
  have := pcC_len L
  rw [List.drop_zero]
  exact List.take_of_length_le (by show (L.flatMap pcC).length ≤ _; omega)
theorem wiI_mk {n : Nat} {X : Prop} (x : X) : wiI n X := by
  unfold wiI
  refine need_mk (by simp) ?_
  cases Nat.beq (n : Int).toNat n <;> exact need_mk (beq_self_eq_true _) x
theorem wiX_mk {L : List P2} (hl : L.length ≤ 1000) {u c : Int} {Q : Value → AH → Prop} (hQ : Q (.slice (some ⟨3, 0, none⟩) (L.length + 1) (L.length + 1)) ⟨4, 0, wiG L u c 0⟩) : wiX L.length (L.flatMap pcC) u c Q := by
  unfold wiX
  have hsz : (Array.mk (L.flatMap pcC)).size = L.length * 2 := pcC_len L
  refine pick_f (ble_ss _) (need_mk ?_ (need_mk ?_ ?_))
  · rw [Bool.and_eq_true, Nat.ble_eq, Nat.ble_eq]; omega
  · rw [hsz, Nat.ble_eq_true_of_le (by omega)]; rfl
  · rw [take_pcC]
    have e : L.flatMap pcC ++ pcC (u, c) = (L ++ [(u, c)]).flatMap pcC := by simp
    rw [e]
    exact hQ
theorem get_last : ∀ {L : List P2} {i : Nat} {t : P2}, L[i]? = some t → (L.flatMap pcC).getD (i * 2) undef = .int .i64 t.1
  | u :: l, 0, t, h => by
    simp only [List.getElem?_cons_zero, Option.some.injEq] at h
    subst h
    rfl
  | u :: l, i + 1, t, h => by
    have := get_last (L := l) (i := i) (t := t) (by simpa using h)
    rw [← this, Nat.succ_mul]
    rfl
theorem wi_fn {L : List P2} (hl : L.length ≤ 1000) {u c : Int} (hu : ∀ p ∈ L, p.1 ≤ u) : FnOK 1 Tryz.prog 270 ⟨[.slice (some ⟨0, 0, none⟩) L.length L.length, pcV (u, c)]⟩ (pH (L.flatMap pcC))
    (fun v g => v = .slice (some ⟨3, 0, none⟩) (L.length + 1) (L.length + 1) ∧ g = ⟨4, 0, wiG L u c 1⟩) := by
  have hQ : ∃ v2 g2, Weak 1 Tryz.prog #[.slice (some ⟨3, 0, none⟩) (L.length + 1) (L.length + 1)] ⟨4, 0, wiG L u c 0⟩ #[v2] g2 ∧ v2 = .slice (some ⟨3, 0, none⟩) (L.length + 1) (L.length + 1) ∧ g2 = ⟨4, 0, wiG L u c 1⟩ :=
    ⟨_, _, Weak.mark (g := 3) 0 1 rfl, rfl, rfl⟩
  refine FnOK.weak1 ?_
  by_cases h0 : L.length = 0
  · refine FnOK.ftree SP0_ok mixed Tryz.func270 somePW (wi0 (L.flatMap pcC) L.length u c _) ?_
    exact pick_f (by rw [h0]; rfl) (wiI_mk (wiX_mk hl hQ))
  · have hi : L.length - 1 < L.length := by omega
    have hget := List.getElem?_eq_getElem hi
    have hlast := hu _ (List.getElem_mem hi)
    have e1 : (IntKind.i64.wrap ((L.length : Int) - 1)) = ((L.length - 1 : Nat) : Int) := by rw [wrap_id _ (by omega) (by omega)]; omega
    have hg := get_last hget
    have hsz : (Array.mk (L.flatMap pcC)).size = L.length * 2 := pcC_len L
    have e2 : (Array.mk (L.flatMap pcC)).toList.getD (0 + (((L.length - 1 : Nat) : Int)).toNat * 2) undef = .int .i64 (L[L.length - 1]).1 := by rw [Nat.zero_add]; exact hg
    refine FnOK.ftree SP0_ok mixed Tryz.func270 somePW (wi1 (L.flatMap pcC) L.length u c _) ?_
    refine pick_t (by simp; omega) ?_
    rw [e1, e2]
    refine need_mk (by simp; omega) (need_mk ?_ ⟨rfl, cut_mk ?_ (wiI_mk (wiX_mk hl hQ))⟩)
    · rw [hsz, Nat.blt, Nat.ble_eq]
      have : ((L.length - 1 : Nat) : Int).toNat = L.length - 1 := rfl
      omega
    · show decide ((L[L.length - 1]).1 > u) = false
      exact decide_eq_false (by omega)
open Classical in
noncomputable def okLast (u : Int) (L : List P2) : Bool := @decide (∀ p ∈ L, p.1 ≤ u) (Classical.propDecidable _)
theorem okLast_iff {u : Int} {L : List P2} : okLast u L = true ↔ ∀ p ∈ L, p.1 ≤ u := by unfold okLast; exact @decide_eq_true_iff _ (Classical.propDecidable _)
noncomputable def spPw (g : FuncId) (args : Array Value) (h : AH) : Option (Bool × Value × AH) :=
  cond (Nat.beq g 270) (match args with
    | ⟨[.slice (some ⟨b, 0, none⟩) n m, .agg ⟨[.int .i64 u, .int .i64 c]⟩]⟩ => match h.get b with
      | some (.cells ⟨cs⟩ t1 (1, 1)) => some (Nat.beq t1 347 && Nat.beq m n && okC n cs && Nat.ble n 1000 && okLast u (rdL n cs) && Nat.blt b h.next,
        .slice (some ⟨h.next, 0, none⟩) (n + 1) (n + 1), (h.del b).push (.cells ⟨(rdL n cs ++ [(u, c)]).flatMap pcC⟩ 347 (1, 1)))
      | _ => none
    | _ => none) none
theorem spPw_ok : SpOK spPw := by
  intro f args h v h' hs
  unfold spPw at hs
  obtain ⟨hf, hs2⟩ := cond_some hs
  clear hs
  have := Nat.eq_of_beq_eq_true hf
  subst this
  split at hs2
  · rename_i b n m u c
    split at hs2
    · rename_i cs t1 hg
      injection hs2 with hs
      injection hs with hb hs
      injection hs with hv hh
      subst hv hh
      simp only [Bool.and_eq_true, Bool.not_eq_true', decide_eq_true_eq] at hb
      obtain ⟨⟨⟨⟨⟨b1, b2⟩, b3⟩, b4⟩, b5⟩, b6⟩ := hb
      have b1 := Nat.eq_of_beq_eq_true b1
      have b2 := Nat.eq_of_beq_eq_true b2
      obtain ⟨L, hL, hcs⟩ := okC_iff.1 b3
      have b4 := Nat.le_of_ble_eq_true b4
      subst b1 b2 hL hcs
      rw [rdL_flat] at b5 ⊢
      have b5 := okLast_iff.1 b5
      have hbn : b < h.next := by have := b6; rw [Nat.blt, Nat.ble_eq] at this; omega
      have hsn : ∀ a, a ≠ b → (h.del b).get a = h.get a := fun a ha => del_ne ha
      have hsb : (h.del b).get b = none := look_delB_self h.blocks
      have hnx : (h.del b).next = h.next := rfl
      refine ⟨?_, Nat.le_succ _⟩
      refine FnOK.frame (r := [(b, 0)]) (q := [(3, h.next)]) (bl := (pH (L.flatMap pcC)).blocks) (bl' := wiG L u c 1) (nx := 4) (lw := 0) (u := .slice (some ⟨3, 0, none⟩) (L.length + 1) (L.length + 1)) (small := [.slice (some ⟨0, 0, none⟩) L.length L.length, pcV (u, c)])
        (by simp [renOk, renB, invB, eqO]) (by simp [ren2s, ren2, ren1, ren0, renL, renB, p1, pcV, pcC]) ?_ (wi_fn b4 b5) ?_ ?_ (by simp [ren2, ren1, ren0, renB]) ?_ ?_ (Nat.le_succ _) (Nat.min_le_left _ _) ?_
      · intro i o hi
        unfold pH at hi
        simp only at hi
        unfold Ev.look at hi
        obtain ⟨h1, h2⟩ := cond_some hi
        cases h2
        have := Nat.eq_of_beq_eq_true h1
        subst this
        exact ⟨b, _, true, by simp, hg, rfl, fun _ => nnB L 347⟩
      · simp [renOk, renB, invB, eqO, AH.push, Nat.blt, Nat.ble_eq, hnx]
      · intro i a ha
        simp only [List.mem_singleton, Prod.mk.injEq] at ha
        obtain ⟨rfl, rfl⟩ := ha
        exact .inr ⟨Nat.le_refl _, rfl⟩
      · intro a o2 ha
        rw [look_push] at ha
        split at ha
        · rename_i hn
          cases ha
          refine .inr ⟨3, _, true, ?_, rfl, rfl, fun _ => nnB (L ++ [(u, c)]) 347⟩
          rw [← hn]
          simp [hnx]
        · by_cases hab : a = b
          · subst hab
            rw [hsb] at ha
            cases ha
          · rw [hsn a hab] at ha
            exact .inl ⟨ha, fun i hi => by simp only [List.mem_singleton, Prod.mk.injEq] at hi; exact hab hi.1⟩
      · intro hids a o2 ha
        rw [look_push] at ha
        split at ha
        · rename_i hn
          rw [← hn]
          exact Nat.lt_succ_self _
        · by_cases hab : a = b
          · subst hab
            rw [hsb] at ha
            cases ha
          · rw [hsn a hab] at ha
            exact Nat.lt_succ_of_lt (hids a o2 ha)
      · intro i hi hlow
        have hlow : i < min h.low b := hlow
        rw [look_push, if_neg (by rw [hnx]; omega)]
        exact hsn i (by omega)
    · cases hs2
  · cases hs2

/-! with, onto nothing -/
theorem wn_eq (u c : Int) (Q : Value → AH → Prop) : ffn Tryz.prog SP0 [] 3000 [] Tryz.f270 [.slice none 0 0, pcV (u, c)] h0 Q =
    Q (.slice (some ⟨2, 0, none⟩) 1 1) ⟨3, 0, [(2, .cells ⟨pcC (u, c)⟩ 347 (0, 0)), (1, .cells ⟨pcC (u, c)⟩ 347 (0, 0)), (0, .cells ⟨pcC (u, c)⟩ 347 (0, 0))]⟩ := by kernel_rfl
theorem wn_fn (u c : Int) : FnOK 0 Tryz.prog 270 ⟨[.slice none 0 0, pcV (u, c)]⟩ h0 (fun v g => ∃ b, ren2 [(b, 0)] v = some (.slice (some ⟨0, 0, none⟩) 1 1) ∧ g.get b = some (.cells ⟨pcC (u, c)⟩ 347 (1, 1))) := by
  refine FnOK.weak1 (FnOK.ftree SP0_ok mixed Tryz.func270 somePW (wn_eq u c _) ?_)
  exact ⟨_, _, Weak.mark (g := 2) 0 1 rfl, 2, rfl, rfl⟩
noncomputable def spPn (g : FuncId) (args : Array Value) (h : AH) : Option (Bool × Value × AH) :=
  cond (Nat.beq g 270) (match args with
    | ⟨[.slice none 0 0, .agg ⟨[.int .i64 u, .int .i64 c]⟩]⟩ => some (true, .slice (some ⟨h.next, 0, none⟩) 1 1, h.push (.cells ⟨pcC (u, c)⟩ 347 (1, 1)))
    | _ => none) none
theorem spPn_ok : SpOK spPn := by
  intro f args h v h' hs
  unfold spPn at hs
  obtain ⟨hf, hs2⟩ := cond_some hs
  clear hs
  have := Nat.eq_of_beq_eq_true hf
  subst this
  split at hs2
  · injection hs2 with hs
    injection hs with hb hs
    injection hs with hv hh
    subst hv hh
    rename_i u c
    exact ⟨FnOK.new1 (args := [.slice none 0 0, pcV (u, c)]) (u := .slice (some ⟨0, 0, none⟩) 1 1) (wn_fn u c) rfl (by simp [pcC, p1]) rfl, Nat.le_succ _⟩
  · cases hs2

/-! sums -/
def sumP (w : Int) : Int → List P2 → Int
  | s, [] => s
  | s, p :: l => sumP w (bif decide (p.1 > w) then IntKind.i64.wrap (s + p.2) else s) l
theorem smr (cs : List Value) (n : Nat) (w s m i : Int) (B : List Value → AH → Prop) (Q : AExit → List Value → AH → Prop) :
    once 1 Tryz.prog SP0 [] noHooks 600 24 [1, 5, 8, 9, 10] [0] [5] [0] (oneLoop (codeOf Tryz.f271) 3) [.int .i64 w, .int .i64 s, .slice (some ⟨0, 0, none⟩) n n, .int .i64 m, .int .i64 i] (pH cs) B Q =
      bif decide (i < m) then bif decide (0 ≤ i) && decide (i < (n : Int)) then bif (0 + i.toNat * 2 + 2).ble (Array.mk cs).size then
        Value.agg ⟨List.take 2 (List.drop (0 + i.toNat * 2) cs)⟩ = pcV (rdP (List.take 2 (List.drop (0 + i.toNat * 2) cs))) ∧ bif decide ((rdP (List.take 2 (List.drop (0 + i.toNat * 2) cs))).1 > w) then
          NoNames (.cells ⟨cs⟩ 347 (1, 1)) ∧ B [.int .i64 w, .int .i64 (IntKind.i64.wrap (s + (rdP (List.take 2 (List.drop (0 + i.toNat * 2) cs))).2)), .slice (some ⟨0, 0, none⟩) n n, .int .i64 m, .int .i64 (IntKind.i64.wrap (i + 1))] (pH cs)
        else NoNames (.cells ⟨cs⟩ 347 (1, 1)) ∧ B [.int .i64 w, .int .i64 s, .slice (some ⟨0, 0, none⟩) n n, .int .i64 m, .int .i64 (IntKind.i64.wrap (i + 1))] (pH cs)
      else False else False else NoNames (.cells ⟨cs⟩ 347 (1, 1)) ∧ Q (.exit 0) [.int .i64 s] (pH cs) := by kernel_rfl
theorem sm_loop {L : List P2} (hl : L.length ≤ 1000) (w : Int) (K : AExit → List Value → AH → Prop) : ∀ (r i : Nat) (s : Int), i + r = L.length → K (.exit 0) [.int .i64 (sumP w s (L.drop i))] (pH (L.flatMap pcC)) →
    iter 1 Tryz.prog SP0 [] noHooks 600 24 [1, 5, 8, 9, 10] [0] [5] [0] (oneLoop (codeOf Tryz.f271) 3) (r + 1) [.int .i64 w, .int .i64 s, .slice (some ⟨0, 0, none⟩) L.length L.length, .int .i64 (L.length : Int), .int .i64 (i : Int)] (pH (L.flatMap pcC)) K := by
  intro r
  induction r with
  | zero =>
    intro i s h1 h2
    rw [List.drop_eq_nil_of_le (by omega)] at h2
    exact (smr _ _ _ _ _ _ _ K).mpr (pick_f (by simp; omega) ⟨nnB L _, h2⟩)
  | succ r ih =>
    intro i s h1 h2
    have hi : i < L.length := by omega
    obtain ⟨t, ht, hget, hdr⟩ := dropT hi
    have e := get2i hget
    rw [hdr, sumP] at h2
    refine (smr _ _ _ _ _ _ _ K).mpr (pick_t (decide_eq_true (by omega)) (need_mk (by simp; omega) (need_mk (ble2 hi) ?_)))
    rw [e]
    refine ⟨rfl, ?_⟩
    show bif decide (t.1 > w) then _ else _
    cases q : decide (t.1 > w) with
    | true =>
      rw [q, cond_true] at h2
      refine pick_t rfl ⟨nnB L _, ?_⟩
      rw [wrap1 (by omega)]
      exact ih (i + 1) _ (by omega) h2
    | false =>
      rw [q, cond_false] at h2
      refine pick_f rfl ⟨nnB L _, ?_⟩
      rw [wrap1 (by omega)]
      exact ih (i + 1) _ (by omega) h2
theorem onePM : (loopAt (codeOf Tryz.f271) 3).length = 1 := by kernel_rfl
theorem somePM : Tryz.f271.body.isSome = true := by kernel_rfl
theorem smf (cs : List Value) (n : Nat) (w r : Int) (C : List Value → AH → Prop) (Q : Value → Option Obj → Prop) :
    tfn Tryz.prog SP0 [] (hook1 3 (hookLS 1 24 [1, 5, 8, 9, 10] [0] [5] (fun vals h K => C vals h ∧ K (.exit 0) [.int .i64 r] (pH cs)))) 600 [] Tryz.f271 [.slice (some ⟨0, 0, none⟩) n n, .int .i64 w] (pH cs) (fun v h => Q v (h.get 0)) =
      (NoNames (.cells ⟨cs⟩ 347 (1, 1)) ∧ C [.int .i64 w, .int .i64 0, .slice (some ⟨0, 0, none⟩) n n, .int .i64 (n : Int), .int .i64 0] (pH cs) ∧ Q (.int .i64 r) (some (.cells ⟨cs⟩ 347 (1, 1)))) := by kernel_rfl
theorem sm_fn {L : List P2} (hl : L.length ≤ 1000) (w : Int) : FnOK 1 Tryz.prog 271 ⟨[.slice (some ⟨0, 0, none⟩) L.length L.length, .int .i64 w]⟩ (pH (L.flatMap pcC)) (fun v g => v = .int .i64 (sumP w 0 L) ∧ g.get 0 = some (.cells ⟨L.flatMap pcC⟩ 347 (1, 1))) := by
  have hsp : LSpec 1 Tryz.prog 24 (oneLoop (codeOf Tryz.f271) 3) (hookLS 1 24 [1, 5, 8, 9, 10] [0] [5] (fun vals h K => (vals = [.int .i64 w, .int .i64 0, .slice (some ⟨0, 0, none⟩) L.length L.length, .int .i64 (L.length : Int), .int .i64 0] ∧ h = pH (L.flatMap pcC)) ∧ K (.exit 0) [.int .i64 (sumP w 0 L)] (pH (L.flatMap pcC)))) := by
    refine hook_ok (G := []) (L := noHooks) (f := 600) (sameX := [0]) SP0_ok mixed (by decide) (loops_none _ _ _ _) ?_
    rintro vals h K ⟨⟨rfl, rfl⟩, hK⟩
    exact ⟨_, sm_loop hl w K L.length 0 0 (by omega) hK⟩
  exact FnOK.ttree SP0_ok mixed Tryz.func271 somePM (loops_one onePM hsp) (smf (L.flatMap pcC) L.length w (sumP w 0 L) _ (fun v o => v = .int .i64 (sumP w 0 L) ∧ o = some (.cells ⟨L.flatMap pcC⟩ 347 (1, 1)))) ⟨nnB L _, ⟨rfl, rfl⟩, rfl, rfl⟩
noncomputable def spPm (g : FuncId) (args : Array Value) (h : AH) : Option (Bool × Value × AH) :=
  cond (Nat.beq g 271) (match args with
    | ⟨[.slice (some ⟨b, 0, none⟩) n m, .int .i64 w]⟩ => match h.get b with
      | some (.cells ⟨cs⟩ t1 (1, 1)) => some (Nat.beq t1 347 && Nat.beq m n && okC n cs && Nat.ble n 1000, .int .i64 (sumP w 0 (rdL n cs)), h)
      | _ => none
    | _ => none) none
theorem spPm_ok : SpOK spPm := by
  intro f args h v h' hs
  unfold spPm at hs
  obtain ⟨hf, hs2⟩ := cond_some hs
  clear hs
  have := Nat.eq_of_beq_eq_true hf
  subst this
  split at hs2
  · rename_i b n m w
    split at hs2
    · rename_i cs t1 hg
      injection hs2 with hs
      injection hs with hb hs
      injection hs with hv hh
      subst hv hh
      simp only [Bool.and_eq_true, Bool.not_eq_true', decide_eq_true_eq] at hb
      obtain ⟨⟨⟨b1, b2⟩, b3⟩, b4⟩ := hb
      have b1 := Nat.eq_of_beq_eq_true b1
      have b2 := Nat.eq_of_beq_eq_true b2
      obtain ⟨L, hL, hcs⟩ := okC_iff.1 b3
      have b4 := Nat.le_of_ble_eq_true b4
      subst b1 b2 hL hcs
      rw [rdL_flat]
      exact ⟨reads1 (rest := [.int .i64 w]) (sm_fn b4 w) rfl p1_pcC rfl hg, Nat.le_refl _⟩
    · cases hs2
  · cases hs2

/-! waits -/
noncomputable def SPm : SC := ⟨idn, spPm, true, true⟩
theorem SPm_ok : SPm.cfg.OK Tryz.prog := spPm_ok.cfg
def waitP (w mo : Int) : Int → List P2 → Int
  | _, [] => 0
  | s, p :: l => bif decide (p.1 ≤ w) then waitP w mo s l else bif decide (IntKind.i64.wrap (s - p.2) ≤ mo) then IntKind.i64.wrap (p.1 - w) else waitP w mo (IntKind.i64.wrap (s - p.2)) l
theorem wtr (cs : List Value) (n : Nat) (w mo s m i : Int) (B : List Value → AH → Prop) (Q : AExit → List Value → AH → Prop) :
    once 1 Tryz.prog SPm [] noHooks 600 35 [1, 2, 7, 13, 14, 15] [0] [6] [0] (oneLoop (codeOf Tryz.f272) 3) [.int .i64 w, .int .i64 mo, .int .i64 s, .slice (some ⟨0, 0, none⟩) n n, .int .i64 m, .int .i64 i] (pH cs) B Q =
      bif decide (i < m) then bif decide (0 ≤ i) && decide (i < (n : Int)) then bif (0 + i.toNat * 2 + 2).ble (Array.mk cs).size then
        Value.agg ⟨List.take 2 (List.drop (0 + i.toNat * 2) cs)⟩ = pcV (rdP (List.take 2 (List.drop (0 + i.toNat * 2) cs))) ∧ bif decide ((rdP (List.take 2 (List.drop (0 + i.toNat * 2) cs))).1 ≤ w) then
          NoNames (.cells ⟨cs⟩ 347 (1, 1)) ∧ B [.int .i64 w, .int .i64 mo, .int .i64 s, .slice (some ⟨0, 0, none⟩) n n, .int .i64 m, .int .i64 (IntKind.i64.wrap (i + 1))] (pH cs)
        else bif decide (IntKind.i64.wrap (s - (rdP (List.take 2 (List.drop (0 + i.toNat * 2) cs))).2) ≤ mo) then NoNames (.cells ⟨cs⟩ 347 (1, 1)) ∧ Q .ret [.int .i64 (IntKind.i64.wrap ((rdP (List.take 2 (List.drop (0 + i.toNat * 2) cs))).1 - w))] (pH cs)
        else NoNames (.cells ⟨cs⟩ 347 (1, 1)) ∧ B [.int .i64 w, .int .i64 mo, .int .i64 (IntKind.i64.wrap (s - (rdP (List.take 2 (List.drop (0 + i.toNat * 2) cs))).2)), .slice (some ⟨0, 0, none⟩) n n, .int .i64 m, .int .i64 (IntKind.i64.wrap (i + 1))] (pH cs)
      else False else False else NoNames (.cells ⟨cs⟩ 347 (1, 1)) ∧ Q (.exit 0) [anyV] (pH cs) := by kernel_rfl
/-- How it ends: by a find (r), or at the end (0). -/
def wtE (K : AExit → List Value → AH → Prop) (H : AH) (e : Bool) (r : Int) : Prop := bif e then K .ret [.int .i64 r] H else K (.exit 0) [anyV] H
def waitE (w mo : Int) : Int → List P2 → Bool
  | _, [] => false
  | s, p :: l => bif decide (p.1 ≤ w) then waitE w mo s l else bif decide (IntKind.i64.wrap (s - p.2) ≤ mo) then true else waitE w mo (IntKind.i64.wrap (s - p.2)) l
theorem wt_loop {L : List P2} (hl : L.length ≤ 1000) (w mo : Int) (K : AExit → List Value → AH → Prop) : ∀ (r i : Nat) (s : Int), i + r = L.length → wtE K (pH (L.flatMap pcC)) (waitE w mo s (L.drop i)) (waitP w mo s (L.drop i)) →
    iter 1 Tryz.prog SPm [] noHooks 600 35 [1, 2, 7, 13, 14, 15] [0] [6] [0] (oneLoop (codeOf Tryz.f272) 3) (r + 1) [.int .i64 w, .int .i64 mo, .int .i64 s, .slice (some ⟨0, 0, none⟩) L.length L.length, .int .i64 (L.length : Int), .int .i64 (i : Int)] (pH (L.flatMap pcC)) K := by
  intro r
  induction r with
  | zero =>
    intro i s h1 h2
    rw [List.drop_eq_nil_of_le (by omega)] at h2
    exact (wtr _ _ _ _ _ _ _ _ K).mpr (pick_f (by simp; omega) ⟨nnB L _, h2⟩)
  | succ r ih =>
    intro i s h1 h2
    have hi : i < L.length := by omega
    obtain ⟨t, ht, hget, hdr⟩ := dropT hi
    have e := get2i hget
    rw [hdr, waitP, waitE] at h2
    refine (wtr _ _ _ _ _ _ _ _ K).mpr (pick_t (decide_eq_true (by omega)) (need_mk (by simp; omega) (need_mk (ble2 hi) ?_)))
    rw [e]
    refine ⟨rfl, ?_⟩
    show bif decide (t.1 ≤ w) then _ else bif decide (IntKind.i64.wrap (s - t.2) ≤ mo) then _ else _
    cases q : decide (t.1 ≤ w) with
    | true =>
      rw [q, cond_true, cond_true] at h2
      refine pick_t rfl ⟨nnB L _, ?_⟩
      rw [wrap1 (by omega)]
      exact ih (i + 1) _ (by omega) h2
    | false =>
      rw [q, cond_false, cond_false] at h2
      refine pick_f rfl ?_
      cases q2 : decide (IntKind.i64.wrap (s - t.2) ≤ mo) with
      | true =>
        rw [q2, cond_true, cond_true] at h2
        exact pick_t rfl ⟨nnB L _, h2⟩
      | false =>
        rw [q2, cond_false, cond_false] at h2
        refine pick_f rfl ⟨nnB L _, ?_⟩
        rw [wrap1 (by omega)]
        exact ih (i + 1) _ (by omega) h2
theorem onePT : (loopAt (codeOf Tryz.f272) 3).length = 1 := by kernel_rfl
theorem somePT : Tryz.f272.body.isSome = true := by kernel_rfl
theorem wtf (cs : List Value) (n : Nat) (w mo r : Int) (e : Bool) (C : List Value → AH → Prop) (Q : Value → Option Obj → Prop) :
    tfn Tryz.prog SPm [] (hook1 3 (hookLS 1 35 [1, 2, 7, 13, 14, 15] [0] [6] (fun vals h K => C vals h ∧ bif e then K .ret [.int .i64 r] (pH cs) else K (.exit 0) [anyV] (pH cs)))) 600 [] Tryz.f272 [.slice (some ⟨0, 0, none⟩) n n, .int .i64 w, .int .i64 mo] (pH cs) (fun v h => Q v (h.get 0)) =
      bif true && Nat.beq n n && okC n cs && Nat.ble n 1000 then (NoNames (.cells ⟨cs⟩ 347 (1, 1)) ∧ C [.int .i64 w, .int .i64 mo, .int .i64 (sumP w 0 (rdL n cs)), .slice (some ⟨0, 0, none⟩) n n, .int .i64 (n : Int), .int .i64 0] (pH cs) ∧
        bif e then Q (.int .i64 r) (some (.cells ⟨cs⟩ 347 (1, 1))) else Q (.int .i64 0) (some (.cells ⟨cs⟩ 347 (1, 1)))) else False := by kernel_rfl
theorem wait_zero {w mo : Int} : ∀ {L : List P2} {s : Int}, waitE w mo s L = false → waitP w mo s L = 0
  | [], _, _ => rfl
  | p :: l, s, h => by
    rw [waitE] at h
    rw [waitP]
    cases q : decide (p.1 ≤ w) with
    | true => rw [q, cond_true] at h; exact wait_zero h
    | false =>
      rw [q, cond_false] at h
      cases q2 : decide (IntKind.i64.wrap (s - p.2) ≤ mo) with
      | true => rw [q2] at h; cases h
      | false => rw [q2, cond_false] at h; exact wait_zero h
theorem wt_fn {L : List P2} (hl : L.length ≤ 1000) (w mo : Int) : FnOK 1 Tryz.prog 272 ⟨[.slice (some ⟨0, 0, none⟩) L.length L.length, .int .i64 w, .int .i64 mo]⟩ (pH (L.flatMap pcC)) (fun v g => v = .int .i64 (waitP w mo (sumP w 0 L) L) ∧ g.get 0 = some (.cells ⟨L.flatMap pcC⟩ 347 (1, 1))) := by
  have hsp : LSpec 1 Tryz.prog 35 (oneLoop (codeOf Tryz.f272) 3) (hookLS 1 35 [1, 2, 7, 13, 14, 15] [0] [6] (fun vals h K => (vals = [.int .i64 w, .int .i64 mo, .int .i64 (sumP w 0 L), .slice (some ⟨0, 0, none⟩) L.length L.length, .int .i64 (L.length : Int), .int .i64 0] ∧ h = pH (L.flatMap pcC)) ∧
      bif waitE w mo (sumP w 0 L) L then K .ret [.int .i64 (waitP w mo (sumP w 0 L) L)] (pH (L.flatMap pcC)) else K (.exit 0) [anyV] (pH (L.flatMap pcC)))) := by
    refine hook_ok (G := []) (L := noHooks) (f := 600) (sameX := [0]) SPm_ok mixed (by decide) (loops_none _ _ _ _) ?_
    rintro vals h K ⟨⟨rfl, rfl⟩, hK⟩
    exact ⟨_, wt_loop hl w mo K L.length 0 _ (by omega) hK⟩
  refine FnOK.ttree SPm_ok mixed Tryz.func272 somePT (loops_one onePT hsp) (wtf (L.flatMap pcC) L.length w mo (waitP w mo (sumP w 0 L) L) (waitE w mo (sumP w 0 L) L) _ (fun v o => v = .int .i64 (waitP w mo (sumP w 0 L) L) ∧ o = some (.cells ⟨L.flatMap pcC⟩ 347 (1, 1)))) ?_
  refine need_mk (by rw [Nat.beq_refl, okC_iff.2 ⟨L, rfl, rfl⟩, Nat.ble_eq_true_of_le hl]; rfl) ⟨nnB L _, ⟨by rw [rdL_flat], rfl⟩, ?_⟩
  cases q : waitE w mo (sumP w 0 L) L with
  | true => exact ⟨rfl, rfl⟩
  | false => exact ⟨by rw [wait_zero q], rfl⟩
noncomputable def spPt (g : FuncId) (args : Array Value) (h : AH) : Option (Bool × Value × AH) :=
  cond (Nat.beq g 272) (match args with
    | ⟨[.slice (some ⟨b, 0, none⟩) n m, .int .i64 w, .int .i64 mo]⟩ => match h.get b with
      | some (.cells ⟨cs⟩ t1 (1, 1)) => some (Nat.beq t1 347 && Nat.beq m n && okC n cs && Nat.ble n 1000, .int .i64 (waitP w mo (sumP w 0 (rdL n cs)) (rdL n cs)), h)
      | _ => none
    | _ => none) none
theorem spPt_ok : SpOK spPt := by
  intro f args h v h' hs
  unfold spPt at hs
  obtain ⟨hf, hs2⟩ := cond_some hs
  clear hs
  have := Nat.eq_of_beq_eq_true hf
  subst this
  split at hs2
  · rename_i b n m w mo
    split at hs2
    · rename_i cs t1 hg
      injection hs2 with hs
      injection hs with hb hs
      injection hs with hv hh
      subst hv hh
      simp only [Bool.and_eq_true, Bool.not_eq_true', decide_eq_true_eq] at hb
      obtain ⟨⟨⟨b1, b2⟩, b3⟩, b4⟩ := hb
      have b1 := Nat.eq_of_beq_eq_true b1
      have b2 := Nat.eq_of_beq_eq_true b2
      obtain ⟨L, hL, hcs⟩ := okC_iff.1 b3
      have b4 := Nat.le_of_ble_eq_true b4
      subst b1 b2 hL hcs
      rw [rdL_flat]
      exact ⟨reads1 (rest := [.int .i64 w, .int .i64 mo]) (wt_fn b4 w mo) rfl p1_pcC rfl hg, Nat.le_refl _⟩
    · cases hs2
  · cases hs2
end Go.Proofs.YtbigicdojndnjaaGreatDoor
