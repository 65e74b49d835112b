/-
  Paths to leaves: leaves collects them.
-/
import Derived.Test.YtmclppkligkooaaGreatDoorLvB
namespace Go.Ev
open Go.RowKit
theorem FnOK.frameP {p : Nat} {P : Program} {f : FuncId} {big small : List Value} {r q : List (Nat × Nat)} {bl bl' : List (Nat × Obj)} {lw nx : Nat} {u v : Value} {H H' : AH}
    (hr : renOk r r.length = true) (ha : ren2s r big = some small)
    (hin : ∀ i o, look i bl = some o → ∃ a o2 same, (a, i) ∈ r ∧ H.get a = some o2 ∧ renO r same o2 = some o ∧ (same = true → NoNames o2))
    (hp : p ≤ r.length) (hF : FnOK p P f ⟨small⟩ ⟨r.length, r.length, bl⟩ (fun x g => x = u ∧ g = ⟨nx, lw, bl'⟩))
    (hq : renOk q H'.next = true)
    (hq1 : ∀ i a, (i, a) ∈ q → ((a, i) ∈ r ∧ i < p ∧ (H.get a).isSome = true) ∨ (H.next ≤ a ∧ (look i bl').isSome = true))
    (hv : ren2 q u = some v)
    (hback : ∀ a o2, H'.get a = some o2 → (H.get a = some o2 ∧ ∀ i, (a, i) ∉ r) ∨ ∃ i o same, (i, a) ∈ q ∧ look i bl' = some o ∧ renO q same o = some o2 ∧ (same = true → NoNames o))
    (hids0 : (∀ a o, H.get a = some o → a < H.next) → ∀ a o, H'.get a = some o → a < H'.next) (hnxt : H.next ≤ H'.next) (hlow : H'.low ≤ H.low) (hold : ∀ i, i < H.next → i < H'.low → H'.get i = H.get i) :
    CallOK P f ⟨big⟩ H v H' := by
  intro N w args' hargs hH hfr
  have hids := hids0 hH.ids
  have hname : ∀ i o, look i bl = some o → ∃ a e o2 same, (a, i) ∈ r ∧ H.get a = some o2 ∧ renO r same o2 = some o ∧ (same = true → NoNames o2) ∧ (N.ren r) i = some e ∧ N a = some e ∧ i < r.length := by
    intro i o ho
    obtain ⟨a, o2, same, h1, h2, h3, h4⟩ := hin i o ho
    obtain ⟨e, o', k1, k2, k3⟩ := hH.here a o2 h2
    obtain ⟨q4, q5, q6⟩ := renOk_mem hr h1
    exact ⟨a, e, o2, same, h1, h2, h3, h4, by rw [ren_name hr q4]; exact k1, k1, q6⟩
  have hsmall : HRel P (N.ren r) ⟨r.length, r.length, bl⟩ w := by
    refine ⟨fun i o hi => ?_, fun i j o p e f hi hj he hf hef => ?_, fun i o hi => ?_, fun b c hbc => ⟨(hH.froz b c hbc).1, fun i o e hi he => ?_⟩, fun b c q => hH.req b c q⟩
    · obtain ⟨a, e, o2, same, h1, h2, h3, h4, h5, h6, _⟩ := hname i o hi
      obtain ⟨e', o', k1, k2, k3⟩ := hH.here a o2 h2
      rw [h6] at k1
      cases k1
      exact ⟨e, o', h5, k2, renO_rel hr h3 h4 k3⟩
    · obtain ⟨a, e1, o2, same, h1, h2, h3, h4, h5, h6, _⟩ := hname i o hi
      obtain ⟨a', e2, o2', same', h1', h2', h3', h4', h5', h6', _⟩ := hname j p hj
      rw [h5] at he; cases he
      rw [h5'] at hf; cases hf
      have := hH.inj a a' o2 o2' _ _ h2 h2' h6 h6' hef
      subst this
      have x1 := (renOk_mem hr h1).1
      have x2 := (renOk_mem hr h1').1
      rw [x1] at x2
      exact Option.some.inj x2
    · obtain ⟨a, e1, o2, same, h1, h2, h3, h4, h5, h6, h7⟩ := hname i o hi
      exact h7
    · obtain ⟨a, e1, o2, same, h1, h2, h3, h4, h5, h6, _⟩ := hname i o hi
      rw [h5] at he; cases he
      exact (hH.froz b c hbc).2 a o2 e h2 h6
  have hfresh : FreshAll p (N.ren r) ⟨r.length, r.length, bl⟩ := by
    refine ⟨hp, fun i hi => ?_⟩
    show (invB r i).bind N.m = none
    cases hx : invB r i with
    | none => rfl
    | some a =>
      have := (renOk_mem hr (invB_mem hx)).2.2
      simp only at hi
      omega
  refine (hF (N.ren r) w args' (ren2s_rel hr ha hargs) hsmall hfresh).mono ?_
  rintro en w' ⟨u', g, N1, v', ⟨rfl, rfl⟩, rfl, hv', hr', _, hx⟩
  have hown : ∀ k, Owned (N.ren r) ⟨r.length, r.length, bl⟩ k → ∃ a o e i, H.get a = some o ∧ N a = some e ∧ e.r = k ∧ (a, i) ∈ r := by
    rintro k ⟨i, o, e, hi, he, rfl⟩
    obtain ⟨a, e1, o2, same, h1, h2, h3, h4, h5, h6, _⟩ := hname i o hi
    rw [h5] at he; cases he
    exact ⟨a, o2, e, i, h2, h6, rfl, h1⟩
  -- a block that is not handed in
  have hout : ∀ a o e, H.get a = some o → N a = some e → (∀ i, (a, i) ∉ r) → ¬ Owned (N.ren r) ⟨r.length, r.length, bl⟩ e.r := by
    intro a o e h1 h2 h3 h4
    obtain ⟨a', o', e', i, k1, k2, k3, k4⟩ := hown _ h4
    have := hH.inj a a' o o' e e' h1 k1 h2 k2 k3.symm
    subst this
    exact h3 i k4
  have hFF : ∀ b c, N.F b = some c → N1.F b = some c := hx.leF
  let L : Emb := ⟨fun a => if H.next ≤ a ∧ a < H'.next then (N1.ren q) a else N a, N1.F⟩
  have hL : ∀ a, L a = if H.next ≤ a ∧ a < H'.next then (N1.ren q) a else N a := fun _ => rfl
  have hle : Emb.le N L := ⟨fun a e h => by
    rw [hL, if_neg]
    · exact h
    · rintro ⟨h1, h2⟩
      rw [hfr a h1 h2] at h
      exact (by cases h), hFF⟩
  have hqN : ∀ i a e, (i, a) ∈ q → N1 i = some e → L a = some e := by
    intro i a e h1 h2
    obtain ⟨x1, x2, x3⟩ := renOk_mem hq h1
    rcases hq1 i a h1 with ⟨h3, y4, _⟩ | ⟨h3, _⟩
    · obtain ⟨y1, y2, y3⟩ := renOk_mem hr h3
      rw [hx.pins i y4, ren_name hr y1] at h2
      exact hle a e h2
    · rw [hL, if_pos ⟨h3, x3⟩, ren_name hq x1]
      exact h2
  have hle1 : Emb.le (N1.ren q) L := ⟨fun a e h => by
    have h : (invB q a).bind N1.m = some e := h
    obtain ⟨i, h1, h2⟩ := Option.bind_eq_some_iff.1 h
    exact hqN i a e (invB_mem h1) h2, fun _ _ x => x⟩
  have hnewF : ∀ k c, N1.F k = some c → N.F k = none → w.heap.size ≤ k ∨ Owned (N.ren r) ⟨r.length, r.length, bl⟩ k := fun k c q1 q2 => hx.newF k c q1 q2
  -- what lies in the heap then
  have hcase : ∀ a o2 e, H'.get a = some o2 → L a = some e → (H.get a = some o2 ∧ N a = some e ∧ (∀ i, (a, i) ∉ r) ∧ e.r < w.heap.size) ∨ ∃ i o, (i, a) ∈ q ∧ look i bl' = some o ∧ N1 i = some e := by
    intro a o2 e h1 h2
    rcases hback a o2 h1 with ⟨h3, h4⟩ | ⟨i, o, same, h3, h4, h5, h6⟩
    · obtain ⟨e', o', k1, k2, k3⟩ := hH.here a o2 h3
      have := hle a e' k1
      rw [h2] at this
      cases this
      exact .inl ⟨h3, k1, h4, lt_of_some k2⟩
    · obtain ⟨e', o', k1, k2, k3⟩ := hr'.here i o h4
      have := hqN i a e' h3 k1
      rw [h2] at this
      cases this
      exact .inr ⟨i, o, h3, h4, k1⟩
  have hmix : ∀ a o2 e i o e', H.get a = some o2 → N a = some e → (∀ i, (a, i) ∉ r) → e.r < w.heap.size → look i bl' = some o → N1 i = some e' → e.r ≠ e'.r := by
    intro a o2 e i o e' h1 h2 h3 h4 h5 h6 h7
    rcases hx.own e'.r ⟨i, o, e', h5, h6, rfl⟩ with x | x
    · omega
    · rw [← h7] at x
      exact hout a o2 e h1 h2 h3 x
  refine ⟨L, v', rfl, (ren2_rel hq hv hv').mono hle1, ?_⟩
  exact {
    le := hle
    new := fun a e h1 h2 => by
      rw [hL] at h1
      split at h1
      · rename_i hc
        have h1 : (invB q a).bind N1.m = some e := h1
        obtain ⟨i, k1, k2⟩ := Option.bind_eq_some_iff.1 h1
        refine ⟨hc.1, hc.2, ?_⟩
        rcases hq1 i a (invB_mem k1) with ⟨h3, y4, h4⟩ | ⟨h3, h4⟩
        · obtain ⟨y1, y2, y3⟩ := renOk_mem hr h3
          have k2 : N1 i = some e := k2
          rw [hx.pins i y4, ren_name hr y1, h2] at k2
          cases k2
        · obtain ⟨o, ho⟩ := Option.isSome_iff_exists.1 h4
          rcases hx.own e.r ⟨i, o, e, ho, k2, rfl⟩ with x | x
          · exact .inl x
          · obtain ⟨a', o', e', i', z1, z2, z3, z4⟩ := hown _ x
            exact .inr ⟨a', o', e', z1, z2, z3⟩
      · rw [h1] at h2; cases h2
    newF := fun k c q1 q2 => by
      rcases hnewF k c q1 q2 with x | x
      · exact .inl x
      · obtain ⟨a', o', e', i', z1, z2, z3, z4⟩ := hown _ x
        exact .inr ⟨a', o', e', z1, z2, z3⟩
    rel := ⟨fun a o2 h1 => by
        rcases hback a o2 h1 with ⟨h3, h4⟩ | ⟨i, o, same, h3, h4, h5, h6⟩
        · obtain ⟨e', o', k1, k2, k3⟩ := hH.here a o2 h3
          exact ⟨e', o', hle a e' k1, by rw [hx.keep _ (lt_of_some k2) (hout a o2 e' h3 k1 h4)]; exact k2, k3.mono hle⟩
        · obtain ⟨e', o', k1, k2, k3⟩ := hr'.here i o h4
          exact ⟨e', o', hqN i a e' h3 k1, k2, (renO_rel hq h5 h6 k3).mono hle1⟩,
      fun a b o p e f h1 h2 h3 h4 h5 => by
        rcases hcase a o e h1 h3 with ⟨x1, x2, x3, x4⟩ | ⟨i, o1, x1, x2, x3⟩
        · rcases hcase b p f h2 h4 with ⟨y1, y2, y3, y4⟩ | ⟨j, o2, y1, y2, y3⟩
          · exact hH.inj a b o p e f x1 y1 x2 y2 h5
          · exact (hmix a o e j o2 f x1 x2 x3 x4 y2 y3 h5).elim
        · rcases hcase b p f h2 h4 with ⟨y1, y2, y3, y4⟩ | ⟨j, o2, y1, y2, y3⟩
          · exact (hmix b p f i o1 e y1 y2 y3 y4 x2 x3 h5.symm).elim
          · have := hr'.inj i j o1 o2 e f x2 y2 x3 y3 h5
            subst this
            have z1 := (renOk_mem hq x1).1
            have z2 := (renOk_mem hq y1).1
            rw [z1] at z2
            exact Option.some.inj z2,
      hids, fun k c h1 => ⟨(hr'.froz k c h1).1, fun a o e h2 h3 => by
        rcases hcase a o e h2 h3 with ⟨x1, x2, x3, x4⟩ | ⟨i, o1, x1, x2, x3⟩
        · cases hk : N.F k with
          | some d => exact (hH.froz k d hk).2 a o e x1 x2
          | none =>
            intro hek
            rcases hnewF k c h1 hk with z | z
            · omega
            · rw [← hek] at z
              exact hout a o e x1 x2 x3 z
        · exact (hr'.froz k c h1).2 i o1 e x2 x3⟩, fun k c z => hr'.req k c z⟩
    size := hx.size
    keep := fun k hk hno => hx.keep k hk (fun z => by
      obtain ⟨a, o, e, i, h1, h2, h3, _⟩ := hown k z
      exact hno a o e h1 h2 h3)
    tape := hx.tape
    os := hx.os
    output := hx.output
    alive := fun a o2 h1 => by
      rcases hback a o2 h1 with ⟨h3, h4⟩ | ⟨i, o, same, h3, h4, h5, h6⟩
      · exact .inl ⟨o2, h3⟩
      · rcases hq1 i a h3 with ⟨h7, _, h8⟩ | ⟨h7, h8⟩
        · exact .inl (Option.isSome_iff_exists.1 h8)
        · exact .inr ⟨h7, hids a o2 h1⟩
    nxt := hnxt
    low := hlow
    old := hold }


end Go.Ev
namespace Go.Proofs.YtmclppkligkooaaGreatDoor
open Go.Ev Go.RowKit
set_option maxRecDepth 20000

theorem SPz_ok : SPz.cfg.OK Tryz.prog := none_ok.cfg
theorem spCy_ok : SpOK spCy := by
  intro f args h v h' hs
  unfold spCy at hs
  obtain ⟨hf, hs2⟩ := cond_some hs
  clear hs
  have := Nat.eq_of_beq_eq_true hf
  subst this
  split at hs2
  · injection hs2 with hs
    injection hs with hb hs
    injection hs with hv hh
    subst hv hh
    have hF := FnOK.ttree (p := 0) SPz_ok mixed Tryz.func31 someCS (ghosts_one (by kernel_rfl) (unezG_ok _ _ _ _)) (cs_ez (fun s o => s = some (0, 0) ∧ o = some (.cells ⟨[]⟩ 44 (0, 0)))) ⟨rfl, rfl⟩
    refine ⟨FnOK.new1 (u := .slice (some ⟨0, 0, none⟩) 0 0) (cs := []) (hF.mono fun v g ⟨h1, h2⟩ => ⟨blkOf v, ?_, h2⟩) rfl (fun x hx => by cases hx) ?_, Nat.le_succ _⟩
    · rw [slN_eq h1]
      simp [ren2, ren1, ren0, renB, blkOf]
    · simp [ren2, ren1, ren0, renB]
  · cases hs2
theorem cs_f0 (L : List ValLaw.Stp) (hl : L.length = 0) : FnOK 0 Tryz.prog 31 ⟨[pathV L]⟩ h0 (fun v _ => v = pathV L) := by
  obtain rfl : L = [] := List.length_eq_zero_iff.1 hl
  refine FnOK.empty (fun c => ?_) ?_
  · exact FnOK.weak1 ((FnOK.ftree SP0_ok mixed Tryz.func31 someCS (cs_nil c (fun v => v = nlV)) rfl).mono fun v g h => ⟨_, g, by rw [h]; exact Weak.val Le.nil, rfl⟩)
  · refine FnOK.weak1 ((FnOK.ttree SPz_ok mixed Tryz.func31 someCS (ghosts_one (by kernel_rfl) (unezG_ok _ _ _ _)) (cs_ez (fun s o => s = some (0, 0) ∧ o = some (.cells ⟨[]⟩ 44 (0, 0)))) ⟨rfl, rfl⟩).mono fun v g ⟨h1, h2⟩ => ?_)
    exact ⟨_, _, by rw [slN_eq h1]; exact freezeP [] rfl h2, rfl⟩
theorem cs_f1 (L : List ValLaw.Stp) (hl : L.length = 1) : FnOK 0 Tryz.prog 31 ⟨[pathV L]⟩ h0 (fun v _ => v = pathV L) := by
  match L, hl with
  | [x0], _ =>
    refine FnOK.weak1 ((FnOK.ftree SP0_ok mixed Tryz.func31 someCS (cs_1 x0.1 (bl x0.2.1) x0.2.2 (fun s o => s = some (1, 1) ∧ o = some (.cells ⟨[.bool x0.1, .string (bl x0.2.1), .int .i64 x0.2.2]⟩ 44 (0, 0)))) ⟨rfl, rfl⟩).mono fun v g ⟨h1, h2⟩ => ?_)
    exact ⟨_, _, by rw [slN_eq h1]; exact freezeP [x0] rfl h2, rfl⟩
theorem cs_f2 (L : List ValLaw.Stp) (hl : L.length = 2) : FnOK 0 Tryz.prog 31 ⟨[pathV L]⟩ h0 (fun v _ => v = pathV L) := by
  match L, hl with
  | [x0, x1], _ =>
    refine FnOK.weak1 ((FnOK.ftree SP0_ok mixed Tryz.func31 someCS (cs_2 x0.1 (bl x0.2.1) x0.2.2 x1.1 (bl x1.2.1) x1.2.2 (fun s o => s = some (2, 2) ∧ o = some (.cells ⟨[.bool x0.1, .string (bl x0.2.1), .int .i64 x0.2.2, .bool x1.1, .string (bl x1.2.1), .int .i64 x1.2.2]⟩ 44 (0, 0)))) ⟨rfl, rfl⟩).mono fun v g ⟨h1, h2⟩ => ?_)
    exact ⟨_, _, by rw [slN_eq h1]; exact freezeP [x0, x1] rfl h2, rfl⟩
theorem cs_f3 (L : List ValLaw.Stp) (hl : L.length = 3) : FnOK 0 Tryz.prog 31 ⟨[pathV L]⟩ h0 (fun v _ => v = pathV L) := by
  match L, hl with
  | [x0, x1, x2], _ =>
    refine FnOK.weak1 ((FnOK.ftree SP0_ok mixed Tryz.func31 someCS (cs_3 x0.1 (bl x0.2.1) x0.2.2 x1.1 (bl x1.2.1) x1.2.2 x2.1 (bl x2.2.1) x2.2.2 (fun s o => s = some (3, 3) ∧ o = some (.cells ⟨[.bool x0.1, .string (bl x0.2.1), .int .i64 x0.2.2, .bool x1.1, .string (bl x1.2.1), .int .i64 x1.2.2, .bool x2.1, .string (bl x2.2.1), .int .i64 x2.2.2]⟩ 44 (0, 0)))) ⟨rfl, rfl⟩).mono fun v g ⟨h1, h2⟩ => ?_)
    exact ⟨_, _, by rw [slN_eq h1]; exact freezeP [x0, x1, x2] rfl h2, rfl⟩
theorem bp_f0 (L : List ValLaw.Stp) (hl : L.length = 0) (s : ValLaw.Stp) : FnOK 0 Tryz.prog 32 ⟨[pathV L, stepV s]⟩ h0 (fun v _ => v = pathV (L ++ [s])) := by
  obtain rfl : L = [] := List.length_eq_zero_iff.1 hl
  refine FnOK.empty (rest := [stepV s]) (fun c => ?_) ?_
  · refine FnOK.weak1 ((FnOK.ftree SP0_ok mixed Tryz.func32 someBP (bp_n c s.1 (bl s.2.1) s.2.2 (fun u o => u = some (1, 1) ∧ o = some (.cells ⟨stC s⟩ 44 (0, 0)))) ⟨rfl, rfl⟩).mono fun v g ⟨h1, h2⟩ => ?_)
    exact ⟨_, _, by rw [slN_eq h1]; exact freezeP [s] rfl h2, rfl⟩
  · refine FnOK.weak1 ((FnOK.ftree spCy_ok.cfg mixed Tryz.func32 someBP (bp_e s.1 (bl s.2.1) s.2.2 (fun u o => u = some (1, 1) ∧ o = some (.cells ⟨stC s⟩ 44 (0, 0)))) ⟨rfl, rfl⟩).mono fun v g ⟨h1, h2⟩ => ?_)
    exact ⟨_, _, by rw [slN_eq h1]; exact freezeP [s] rfl h2, rfl⟩
theorem bp_f1 (L : List ValLaw.Stp) (hl : L.length = 1) (s : ValLaw.Stp) : FnOK 0 Tryz.prog 32 ⟨[pathV L, stepV s]⟩ h0 (fun v _ => v = pathV (L ++ [s])) := by
  match L, hl with
  | [x0], _ =>
    refine FnOK.weak1 ((FnOK.ftree SP0_ok mixed Tryz.func32 someBP (bp_1 x0.1 (bl x0.2.1) x0.2.2 s.1 (bl s.2.1) s.2.2 (fun u o => u = some (2, 2) ∧ o = some (.cells ⟨[.bool x0.1, .string (bl x0.2.1), .int .i64 x0.2.2, .bool s.1, .string (bl s.2.1), .int .i64 s.2.2]⟩ 44 (0, 0)))) ⟨rfl, rfl⟩).mono fun v g ⟨h1, h2⟩ => ?_)
    exact ⟨_, _, by rw [slN_eq h1]; exact freezeP [x0, s] rfl h2, rfl⟩
theorem bp_f2 (L : List ValLaw.Stp) (hl : L.length = 2) (s : ValLaw.Stp) : FnOK 0 Tryz.prog 32 ⟨[pathV L, stepV s]⟩ h0 (fun v _ => v = pathV (L ++ [s])) := by
  match L, hl with
  | [x0, x1], _ =>
    refine FnOK.weak1 ((FnOK.ftree SP0_ok mixed Tryz.func32 someBP (bp_2 x0.1 (bl x0.2.1) x0.2.2 x1.1 (bl x1.2.1) x1.2.2 s.1 (bl s.2.1) s.2.2 (fun u o => u = some (3, 3) ∧ o = some (.cells ⟨[.bool x0.1, .string (bl x0.2.1), .int .i64 x0.2.2, .bool x1.1, .string (bl x1.2.1), .int .i64 x1.2.2, .bool s.1, .string (bl s.2.1), .int .i64 s.2.2]⟩ 44 (0, 0)))) ⟨rfl, rfl⟩).mono fun v g ⟨h1, h2⟩ => ?_)
    exact ⟨_, _, by rw [slN_eq h1]; exact freezeP [x0, x1, s] rfl h2, rfl⟩

theorem spCs_ok {L : List ValLaw.Stp} (hl : L.length ≤ 3) : SpOK (spCs (pathV L)) := by
  have hF : FnOK 0 Tryz.prog 31 ⟨[pathV L]⟩ h0 (fun v _ => v = pathV L) := by
    have : L.length = 0 ∨ L.length = 1 ∨ L.length = 2 ∨ L.length = 3 := by omega
    rcases this with q | q | q | q
    · exact cs_f0 L q
    · exact cs_f1 L q
    · exact cs_f2 L q
    · exact cs_f3 L q
  intro f args h v h' hs
  unfold spCs at hs
  obtain ⟨hf, hs2⟩ := cond_some hs
  clear hs
  have := Nat.eq_of_beq_eq_true hf
  subst this
  split at hs2
  · injection hs2 with hs
    injection hs with hb hs
    injection hs with hv hh
    subst hv hh
    have hb := eqV_eq hb
    subst hb
    exact ⟨FnOK.pure hF rfl rfl h, Nat.le_refl _⟩
  · cases hs2
theorem spBp_ok {L : List ValLaw.Stp} (hl : L.length ≤ 2) (s : ValLaw.Stp) : SpOK (spBp true (pathV L) (stepV s) (pathV (L ++ [s]))) := by
  have hF : FnOK 0 Tryz.prog 32 ⟨[pathV L, stepV s]⟩ h0 (fun v _ => v = pathV (L ++ [s])) := by
    have : L.length = 0 ∨ L.length = 1 ∨ L.length = 2 := by omega
    rcases this with q | q | q
    · exact bp_f0 L q s
    · exact bp_f1 L q s
    · exact bp_f2 L q s
  intro f args h v h' hs
  unfold spBp at hs
  obtain ⟨hf, hs2⟩ := cond_some hs
  clear hs
  have := Nat.eq_of_beq_eq_true hf
  subst this
  split at hs2
  · injection hs2 with hs
    injection hs with hb hs
    injection hs with hv hh
    subst hv hh
    simp only [Bool.and_eq_true] at hb
    obtain ⟨⟨_, b1⟩, b2⟩ := hb
    have b1 := eqV_eq b1
    have b2 := eqV_eq b2
    subst b1 b2
    exact ⟨FnOK.pure hF rfl rfl h, Nat.le_refl _⟩
  · cases hs2
/-- What a value owes whose leaves lie behind these paths. -/
def LvF (x P : Value) (ts : List Value) : Prop := ts.all p1 = true ∧ pr x = true ∧ pr P = true ∧
  (ts.length ≤ 5000 → FnOK 0 Tryz.prog 16 ⟨[nlV, x, P]⟩ h0 (fun v g => slN v = some (ts.length, ts.length) ∧ g.get (blkOf v) = some (.cells ⟨ts⟩ 35 (0, 0)))) ∧
  ∀ cs : List Value, cs.all p1 = true → 1 ≤ cs.length → cs.length + ts.length ≤ 5000 → FnOK 0 Tryz.prog 16 ⟨[slV cs.length, x, P]⟩ (oB cs 0) (fun v g => slN v = some (cs.length + ts.length, cs.length + ts.length) ∧ g.get (blkOf v) = some (.cells ⟨cs ++ ts⟩ 35 (0, 0)))
theorem nn_al {cs : List Value} {t : TypeId} (h : cs.all p1 = true) : NoNames (.cells ⟨cs⟩ t (0, 0)) := fun v hv => List.all_eq_true.1 h v (by simpa using hv)
theorem lv_call {x P : Value} {ts cs : List Value} {b : Nat} {H : AH} (hL : LvF x P ts) (hcs : cs.all p1 = true) (h1l : 1 ≤ cs.length) (hn : cs.length + ts.length ≤ 5000) (hb : H.get b = some (.cells ⟨cs⟩ 35 (0, 0))) (hlb : b < H.next) :
    CallOK Tryz.prog 16 ⟨[.slice (some ⟨b, 0, none⟩) cs.length cs.length, x, P]⟩ H (.slice (some ⟨H.next, 0, none⟩) (cs.length + ts.length) (cs.length + ts.length)) ((H.del b).push (.cells ⟨cs ++ ts⟩ 35 (0, 0))) := by
  obtain ⟨h1, h2, h3, _, h5⟩ := hL
  have hF := h5 cs hcs h1l hn
  have hall : (cs ++ ts).all p1 = true := by rw [List.all_append, hcs, h1]; rfl
  have hpx : ∀ r, ren2 r x = some x := fun r => ren2_plain h2
  have hpP : ∀ r, ren2 r P = some P := fun r => ren2_plain h3
  have hpp : ren2 [(b, 0)] (.slice (some ⟨b, 0, none⟩) cs.length cs.length) = some (slV cs.length) := by simp [ren2, ren1, ren0, renB, slV]
  have hdb : (H.del b).get b = none := look_delB_self H.blocks
  refine FnOK.frameP (p := 0) (r := [(b, 0)]) (q := [(0, H.next)]) (bl := [(0, .cells ⟨cs⟩ 35 (0, 0))]) (bl' := [(0, .cells ⟨cs ++ ts⟩ 35 (0, 0))]) (nx := 1) (lw := 1) (u := slV (cs.length + ts.length)) (small := [slV cs.length, x, P])
    ?_ ?_ ?_ (Nat.zero_le _) ?_ ?_ ?_ ?_ ?_ ?_ (Nat.le_succ _) ?_ ?_
  · simp [renOk, renB, invB, eqO]
  · simp only [ren2s, hpp, hpx, hpP]
  · intro i o ho
    match i, ho with
    | 0, ho =>
      cases ho
      exact ⟨b, _, true, by simp, hb, rfl, fun _ => nn_al hcs⟩
    | i + 1, ho => cases ho
  · refine FnOK.weak1 (hF.mono ?_)
    rintro v g ⟨q1, q2⟩
    have q1 := slN_eq q1
    generalize blkOf v = k at q1 q2
    subst q1
    refine ⟨_, _, Weak.norm [true] [(k, 0)] [k] 1 ?_ rfl (τ2 := [slV (cs.length + ts.length)]) ?_ (bl := [(0, .cells ⟨cs ++ ts⟩ 35 (0, 0))]) ?_ ?_, rfl, rfl⟩
    · simp [renOk, renB, invB, eqO]
    · simp [renT, ren2, ren1, ren0, renB, slV]
    · simp [renH, q2, renO]
    · intro a ha o ho
      simp only [List.mem_singleton] at ha
      subst ha
      rw [q2] at ho
      cases ho
      exact nn_al hall
  · have hnx : ((H.del b).push (.cells ⟨cs ++ ts⟩ 35 (0, 0))).next = H.next + 1 := rfl
    have e4 : Nat.blt H.next (H.next + 1) = true := by rw [Nat.blt, Nat.ble_eq]; omega
    rw [hnx]
    simp [renOk, renB, invB, eqO, e4]
  · intro i a ha
    simp only [List.mem_singleton, Prod.mk.injEq] at ha
    obtain ⟨rfl, rfl⟩ := ha
    exact .inr ⟨Nat.le_refl _, rfl⟩
  · simp [ren2, ren1, ren0, renB, slV]
  · intro a o2 ha
    rw [look_push] at ha
    split at ha
    · rename_i hn
      cases ha
      refine .inr ⟨0, _, true, ?_, rfl, rfl, fun _ => nn_al hall⟩
      rw [← hn]
      exact .head _
    · by_cases hab : a = b
      · subst hab
        rw [hdb] at ha
        cases ha
      · rw [del_ne hab] at ha
        refine .inl ⟨ha, fun i hi => ?_⟩
        simp only [List.mem_singleton, Prod.mk.injEq] at hi
        exact hab hi.1
  · intro hids a o2 ha
    rw [look_push] at ha
    show a < H.next + 1
    split at ha
    · rename_i hn
      have hn : a = H.next := hn.symm
      omega
    · by_cases hab : a = b
      · omega
      · rw [del_ne hab] at ha
        have := hids a o2 ha
        omega
  · exact Nat.min_le_left _ _
  · intro i hi hlow
    have hlow : i < min H.low b := hlow
    rw [look_push, if_neg (by show ¬ _ = _; intro q; have : H.next = i := q; omega), del_ne (by omega)]
theorem spLv_ok {x P : Value} {ts : List Value} (hL : LvF x P ts) : SpOK (spLv true x P ts) := by
  intro f args h v h' hs
  unfold spLv at hs
  obtain ⟨hf, hs2⟩ := cond_some hs
  clear hs
  have := Nat.eq_of_beq_eq_true hf
  subst this
  split at hs2
  · rename_i o y q
    split at hs2
    · injection hs2 with hs
      injection hs with hb hs
      injection hs with hv hh
      subst hv hh
      simp only [Bool.and_eq_true] at hb
      obtain ⟨⟨⟨_, b1⟩, b2⟩, b3⟩ := hb
      have b1 := eqV_eq b1
      have b2 := eqV_eq b2
      have b3 := Nat.le_of_ble_eq_true b3
      subst b1 b2
      obtain ⟨k1, k2, k3, k4, _⟩ := hL
      refine ⟨FnOK.new1 (u := slV ts.length) (cs := ts) ((k4 b3).mono fun v g ⟨q1, q2⟩ => ⟨blkOf v, ?_, q2⟩) ?_ (fun z hz => List.all_eq_true.1 k1 z hz) ?_, Nat.le_succ _⟩
      · rw [slN_eq q1]
        simp [ren2, ren1, ren0, renB, blkOf, slV]
      · show (pr nlV && (pr y && (pr q && true))) = true
        rw [k2, k3]; rfl
      · simp [ren2, ren1, ren0, renB, slV]
    · rename_i b n m
      split at hs2
      · rename_i cs t hg
        injection hs2 with hs
        injection hs with hb hs
        injection hs with hv hh
        subst hv hh
        simp only [Bool.and_eq_true] at hb
        obtain ⟨⟨⟨⟨⟨⟨⟨⟨⟨_, b1⟩, b2⟩, b3⟩, b4⟩, b5⟩, b6⟩, b9⟩, b7⟩, b8⟩ := hb
        have b9 := Nat.le_of_ble_eq_true b9
        have b1 := eqV_eq b1
        have b2 := eqV_eq b2
        have b3 := Nat.eq_of_beq_eq_true b3
        have b4 := Nat.eq_of_beq_eq_true b4
        have b6 := Nat.eq_of_beq_eq_true b6
        have b7 := Nat.le_of_ble_eq_true b7
        subst b1 b2 b3 b4 b6
        exact ⟨lv_call hL b8 b9 b7 hg (Nat.le_of_ble_eq_true b5), Nat.le_succ _⟩
      · cases hs2
    · cases hs2
  · cases hs2
theorem no_bp (P s q : Value) : SpOK (spBp false P s q) := by
  intro f args h v h' hs
  unfold spBp at hs
  obtain ⟨hf, hs2⟩ := cond_some hs
  split at hs2
  · injection hs2 with hs
    injection hs with hb hs
    simp at hb
  · cases hs2
theorem no_lv (x P : Value) (ts : List Value) : SpOK (spLv false x P ts) := by
  intro f args h v h' hs
  unfold spLv at hs
  obtain ⟨hf, hs2⟩ := cond_some hs
  split at hs2
  · split at hs2
    · injection hs2 with hs
      injection hs with hb hs
      simp at hb
    · split at hs2
      · injection hs2 with hs
        injection hs with hb hs
        simp at hb
      · cases hs2
    · cases hs2
  · cases hs2
end Go.Proofs.YtmclppkligkooaaGreatDoor
