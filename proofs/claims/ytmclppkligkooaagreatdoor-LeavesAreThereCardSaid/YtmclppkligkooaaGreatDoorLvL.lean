/-
  Paths: ReadPath reads the text of a path as it was.
-/
import Derived.Test.YtmclppkligkooaaGreatDoorLvK
namespace Go.Proofs.YtmclppkligkooaaGreatDoor
open Go.Ev Go.RowKit
set_option maxRecDepth 20000

noncomputable def thenLS (ls g : LS) : LS := fun t h K => ls t h fun e t' h' => match e with
  | .exit i => g t' h' fun _ t2 h2 => K (.exit i) t2 h2
  | e => K e t' h'
theorem thenLS_ok {p : Nat} {P : Program} {m : Nat} {b : Code} {ls g : LS} (hl : LSpec p P m b ls) (hg : GSpec p P m g) : LSpec p P m b (thenLS ls g) := by
  intro t τ h K hr hs
  refine Tri.post ((hl t τ h _ hr hs).mono ?_)
  rintro e τ' h' ⟨t', hr', hq⟩
  cases e with
  | exit i =>
    obtain ⟨t2, τ2, h2, hW, hr2, hq2⟩ := hg t' τ' h' _ hr' hq
    exact ⟨τ2, h2, hW, t2, hr2, hq2⟩
  | normal => exact ⟨τ', h', Weak.refl _ _ _ _, t', hr', hq⟩
  | ret => exact ⟨τ', h', Weak.refl _ _ _ _, t', hr', hq⟩
noncomputable def spRs (T : ByteArray) (a : Int) (b : Bool) (s : ByteArray) (x e : Int) (ok : Bool) (f : FuncId) (args : Array Value) (h : AH) : Option (Bool × Value × AH) :=
  cond (Nat.beq f 23) (match args with
    | ⟨[t, i]⟩ => some (ok && eqV t (.string T) && eqV i (.int .i64 a), .tuple ⟨[.agg ⟨[.bool b, .string s, .int .i64 x]⟩, .int .i64 e, .bool true]⟩, h)
    | _ => none) none
noncomputable def SRs (T : ByteArray) (a : Int) (b : Bool) (s : ByteArray) (x e : Int) (ok : Bool) : SC := ⟨idn, spRs T a b s x e ok, true, true⟩
theorem spRs_ok {T : ByteArray} {a : Int} {b : Bool} {s : ByteArray} {x e : Int} {ok : Bool} (hF : ok = true → FnOK 0 Tryz.prog 23 ⟨[.string T, .int .i64 a]⟩ h0 (fun v _ => v = .tuple ⟨[.agg ⟨[.bool b, .string s, .int .i64 x]⟩, .int .i64 e, .bool true]⟩)) : SpOK (spRs T a b s x e ok) := by
  intro f args h v h' hs
  unfold spRs at hs
  obtain ⟨hf, hs2⟩ := cond_some hs
  clear hs
  have := Nat.eq_of_beq_eq_true hf
  subst this
  split at hs2
  · injection hs2 with hs
    injection hs with hb hs
    injection hs with hv hh
    subst hv hh
    simp only [Bool.and_eq_true] at hb
    obtain ⟨⟨b0, b1⟩, b2⟩ := hb
    have b1 := eqV_eq b1
    have b2 := eqV_eq b2
    subst b1 b2
    exact ⟨FnOK.pure (hF b0) rfl rfl h, Nat.le_refl _⟩
  · cases hs2
def nf' (c : Bool) (A B : Prop) : Prop := bif c then A else B
def oS (cs : List Value) : AH := ⟨1, 1, [(0, .cells ⟨cs⟩ 44 (0, 0))]⟩
theorem someRP : Tryz.f8.body.isSome = true := by kernel_rfl
theorem oneRP5 : (loopAt (codeOf Tryz.f8) 5).length = 1 := by kernel_rfl
theorem rp_rn (T : ByteArray) (a : Int) (b : Bool) (s : ByteArray) (x e : Int) (ok : Bool) (B : List Value → AH → Prop) (Q : AExit → List Value → AH → Prop) : once 0 Tryz.prog (SRs T a b s x e ok) [] noHooks 900 39 [0, 6, 5] [0] [5] [0] (oneLoop (codeOf Tryz.f8) 5) [.string T, .int .i64 a, nlV] h0 B Q =
    bif decide (a < (T.size : Int)) then nd (ok && eqV (.string T) (.string T) && eqV (.int .i64 a) (.int .i64 a)) (NoNames (.cells ⟨[.bool b, .string s, .int .i64 x]⟩ 44 (0, 0)) ∧ B [.string T, .int .i64 e, .slice (some ⟨0, 0, none⟩) 1 1] (oS [.bool b, .string s, .int .i64 x])) else Q (.exit 0) [nlV] h0 := by kernel_rfl
theorem rp_rb (T : ByteArray) (a : Int) (b : Bool) (s : ByteArray) (x e : Int) (ok : Bool) (cs : List Value) (j : Nat) (B : List Value → AH → Prop) (Q : AExit → List Value → AH → Prop) : once 0 Tryz.prog (SRs T a b s x e ok) [] noHooks 900 39 [0, 6, 5] [0] [5] [0] (oneLoop (codeOf Tryz.f8) 5) [.string T, .int .i64 a, .slice (some ⟨0, 0, none⟩) j j] (oS cs) B Q =
    bif decide (a < (T.size : Int)) then nd (ok && eqV (.string T) (.string T) && eqV (.int .i64 a) (.int .i64 a)) (nf ((j + 1).ble j) (nd ((j + 1).ble 9223372036854775807 && ((j + 1) * 32).ble 140737488355328) (nd ((0 + j * 3).ble (Array.mk cs).size && true && true)
      (NoNames (.cells ⟨List.take (j * 3) (List.drop 0 (Array.mk cs).toList) ++ [.bool b, .string s, .int .i64 x]⟩ 44 (0, 0)) ∧ B [.string T, .int .i64 e, .slice (some ⟨0, 0, none⟩) (j + 1) (j + 1)] (oS (List.take (j * 3) (List.drop 0 (Array.mk cs).toList) ++ [.bool b, .string s, .int .i64 x])))))) else NoNames (.cells ⟨cs⟩ 44 (0, 0)) ∧ Q (.exit 0) [.slice (some ⟨0, 0, none⟩) j j] (oS cs) := by kernel_rfl
noncomputable def SCp (X : List Value) : SC := ⟨idn, spCp (fz ⟨X⟩), true, true⟩
theorem rp_hn (T : ByteArray) (X : List Value) (C : List Value → AH → Prop) (Q : Value → Prop) : tfn Tryz.prog (SCp X) [] (hook1 5 (thenLS (hookLS 0 39 [0, 6, 5] [0] [5] (fun vals h K => C vals h ∧ K (.exit 0) [nlV] h0)) (freezeG 39 true 3 [5]))) 900 [] Tryz.f8 [.string T] h0 (fun v _ => Q v) =
    nf' (decide ((T.size : Int) > 200000)) (Q (.tuple ⟨[nlV, .int .i64 0, .int .i64 2]⟩)) (C [.string T, .int .i64 0, nlV] h0 ∧ nd (eqV (fz ⟨[]⟩) (fz ⟨X⟩)) (Q (.tuple ⟨[fz ⟨[]⟩, .int .i64 0, .int .i64 0]⟩))) := by kernel_rfl
theorem rp_hb (T : ByteArray) (X : List Value) (cs : List Value) (j : Nat) (C : List Value → AH → Prop) (Q : Value → Prop) : tfn Tryz.prog (SCp X) [] (hook1 5 (thenLS (hookLS 0 39 [0, 6, 5] [0] [5] (fun vals h K => C vals h ∧ K (.exit 0) [.slice (some ⟨0, 0, none⟩) j j] (oS cs))) (freezeG 39 true 3 [5]))) 900 [] Tryz.f8 [.string T] h0 (fun v _ => Q v) =
    nf' (decide ((T.size : Int) > 200000)) (Q (.tuple ⟨[nlV, .int .i64 0, .int .i64 2]⟩)) (C [.string T, .int .i64 0, nlV] h0 ∧ nd (((Nat.beq j j && Nat.beq j j) && true) && cs.all p1 && j.ble j && (j * 3).ble cs.length && true) (nd (eqV (fz ⟨chunk true 3 j cs⟩) (fz ⟨X⟩)) (Q (.tuple ⟨[fz ⟨chunk true 3 j cs⟩, .int .i64 0, .int .i64 0]⟩)))) := by kernel_rfl
/-! the loop -/
def rO : List ValLaw.Stp → Value
  | [] => nlV
  | _ :: l => .slice (some ⟨0, 0, none⟩) (l.length + 1) (l.length + 1)
def rH : List ValLaw.Stp → AH
  | [] => h0
  | d :: l => oS ((d :: l).flatMap stC)
def rVs (T : ByteArray) (D : List ValLaw.Stp) : List Value := [.string T, .int .i64 ((ValLaw.pathT D).length : Int), rO D]
theorem stC_all (L : List ValLaw.Stp) : (L.flatMap stC).all p1 = true := List.all_eq_true.2 fun v hv => stC_p1 L v hv
theorem stC_len : ∀ L : List ValLaw.Stp, (L.flatMap stC).length = L.length * 3
  | [] => rfl
  | x :: l => by rw [List.flatMap_cons, List.length_append, stC_len l, List.length_cons]; show 3 + _ = _; omega
theorem pathT_app (D R : List ValLaw.Stp) : ValLaw.pathT (D ++ R) = ValLaw.pathT D ++ ValLaw.pathT R := List.flatMap_append
theorem okR_path {R : List ValLaw.Stp} (h : ∀ s ∈ R, s ∈ ValLaw.stepsU) : okR (ValLaw.pathT R) := by
  match R, h with
  | [], _ => exact .inl rfl
  | s :: R, h =>
    have key : ∀ s ∈ ValLaw.stepsU, (ValLaw.stT s).head? = some 46 ∨ (ValLaw.stT s).head? = some 91 := by decide
    have e : ValLaw.pathT (s :: R) = ValLaw.stT s ++ ValLaw.pathT R := rfl
    rw [e]
    match hs : ValLaw.stT s, key s (h s (by simp)) with
    | [], k => rcases k with k | k <;> cases k
    | d :: l, k => exact .inr ⟨d, l ++ ValLaw.pathT R, rfl, by rcases k with k | k <;> cases k <;> simp⟩
theorem pathT_len {p : List ValLaw.Stp} (h : ∀ s ∈ p, s ∈ ValLaw.stepsU) : (ValLaw.pathT p).length ≤ p.length * 8 := by
  induction p with
  | nil => exact Nat.le_refl _
  | cons s l ih =>
    have e : ValLaw.pathT (s :: l) = ValLaw.stT s ++ ValLaw.pathT l := rfl
    have h1 := st_len (h s (by simp))
    have h2 := ih fun x hx => h x (by simp [hx])
    rw [e, List.length_append, List.length_cons]; omega
theorem rp_loop {p : List ValLaw.Stp} (hp : okP p) (K : AExit → List Value → AH → Prop) (hK : K (.exit 0) [rO p] (rH p)) : ∀ (R D : List ValLaw.Stp), p = D ++ R → iterE 0 Tryz.prog 39 [0, 6, 5] [0] [5] [0] (oneLoop (codeOf Tryz.f8) 5) (R.length + 1) (rVs (bl (ValLaw.pathT p)) D) (rH D) K
  | [], D, h => by
    rw [List.append_nil] at h
    subst h
    have hz : decide (((ValLaw.pathT p).length : Int) < ((bl (ValLaw.pathT p)).size : Int)) = false := by
      rw [bl_size]; exact decide_eq_false (by omega)
    refine ⟨SRs (bl (ValLaw.pathT p)) ((ValLaw.pathT p).length : Int) false ⟨#[]⟩ 0 0 false, [], noHooks, 900, (spRs_ok (fun q => by cases q)).cfg, loops_none _ _ _ _, ?_⟩
    match p, hK, hz with
    | [], hK, hz =>
      have e := fun B => rp_rn (bl (ValLaw.pathT [])) ((ValLaw.pathT []).length : Int) false ⟨#[]⟩ 0 0 false B K
      exact (e _).mpr (pick_f hz hK)
    | d :: l, hK, hz =>
      have e := fun B => rp_rb (bl (ValLaw.pathT (d :: l))) ((ValLaw.pathT (d :: l)).length : Int) false ⟨#[]⟩ 0 0 false ((d :: l).flatMap stC) (l.length + 1) B K
      exact (e _).mpr (pick_f hz ⟨nn_al (stC_all _), hK⟩)
  | s :: R, D, h => by
    have hs : s ∈ ValLaw.stepsU := hp.2 s (by rw [h]; simp)
    have hR : ∀ x ∈ R, x ∈ ValLaw.stepsU := fun x hx => hp.2 x (by rw [h]; simp [hx])
    have hpl := pathT_len hp.2
    have hp3 := hp.1
    have hT : ValLaw.pathT p = ValLaw.pathT D ++ (ValLaw.stT s ++ ValLaw.pathT R) := by rw [h, pathT_app]; rfl
    have hTl : (ValLaw.pathT p).length = (ValLaw.pathT D).length + ((ValLaw.stT s).length + (ValLaw.pathT R).length) := by rw [hT, List.length_append, List.length_append]
    have hsp : 0 < (ValLaw.stT s).length := List.length_pos_iff.2 (st_ne hs)
    have hF := rs_fn (ValLaw.pathT D) hs (okR_path hR) (by rw [List.length_append]; omega)
    rw [← hT] at hF
    have hz : decide (((ValLaw.pathT D).length : Int) < ((bl (ValLaw.pathT p)).size : Int)) = true := by
      rw [bl_size]; exact decide_eq_true (by omega)
    have next := rp_loop hp K hK R (D ++ [s]) (by rw [h, List.append_assoc]; rfl)
    have hDl : (ValLaw.pathT (D ++ [s])).length = (ValLaw.pathT D).length + (ValLaw.stT s).length := by
      rw [pathT_app, List.length_append]
      show _ + (ValLaw.stT s ++ []).length = _
      rw [List.append_nil]
    have hc : (true && eqV (.string (bl (ValLaw.pathT p))) (.string (bl (ValLaw.pathT p))) && eqV (.int .i64 ((ValLaw.pathT D).length : Int)) (.int .i64 ((ValLaw.pathT D).length : Int))) = true := by rw [eqV_self, eqV_self]; rfl
    have hnn : ∀ cs : List Value, cs.all p1 = true → NoNames (.cells ⟨cs⟩ 44 (0, 0)) := fun cs h => nn_al h
    have hDp : D.length ≤ 3 := by rw [h, List.length_append] at hp3; omega
    refine ⟨SRs (bl (ValLaw.pathT p)) ((ValLaw.pathT D).length : Int) s.1 (bl s.2.1) s.2.2 ((((ValLaw.pathT D).length + (ValLaw.stT s).length : Nat)) : Int) true, [], noHooks, 900, (spRs_ok (fun _ => hF)).cfg, loops_none _ _ _ _, ?_⟩
    match D, hz, hc, next, hDl, hDp with
    | [], hz, hc, next, hDl, _ =>
      have e := fun B => rp_rn (bl (ValLaw.pathT p)) ((ValLaw.pathT []).length : Int) s.1 (bl s.2.1) s.2.2 ((((ValLaw.pathT []).length + (ValLaw.stT s).length : Nat)) : Int) true B K
      refine (e _).mpr (pick_t hz (nd_mk hc ⟨hnn _ rfl, ?_⟩))
      rw [← hDl]
      exact next
    | d :: l, hz, hc, next, hDl, hDp =>
      have hll : (d :: l).length = l.length + 1 := rfl
      have e := fun B => rp_rb (bl (ValLaw.pathT p)) ((ValLaw.pathT (d :: l)).length : Int) s.1 (bl s.2.1) s.2.2 ((((ValLaw.pathT (d :: l)).length + (ValLaw.stT s).length : Nat)) : Int) true ((d :: l).flatMap stC) (l.length + 1) B K
      have ht : List.take ((l.length + 1) * 3) (List.drop 0 (Array.mk ((d :: l).flatMap stC)).toList) ++ [.bool s.1, .string (bl s.2.1), .int .i64 s.2.2] = ((d :: l) ++ [s]).flatMap stC := by
        rw [List.drop_zero, List.flatMap_append]
        congr 1
        show List.take ((d :: l).length * 3) ((d :: l).flatMap stC) = _
        rw [← stC_len, List.take_length]
      rw [ht] at e
      refine (e _).mpr (pick_t hz (nd_mk hc (nf_mk (ble_ss _) (nd_mk ?_ (nd_mk ?_ ⟨hnn _ (stC_all _), ?_⟩)))))
      · rw [Bool.and_eq_true, Nat.ble_eq, Nat.ble_eq]; omega
      · have : (0 + (l.length + 1) * 3).ble (Array.mk ((d :: l).flatMap stC)).size = true := by
          rw [Nat.ble_eq]
          show 0 + (l.length + 1) * 3 ≤ ((d :: l).flatMap stC).length
          rw [stC_len]; omega
        rw [this]; rfl
      · rw [← hDl]
        have e7 : l.length + 1 + 1 = (l ++ [s]).length + 1 := by rw [List.length_append]; rfl
        rw [e7]
        exact next
theorem chunk_st : ∀ L : List ValLaw.Stp, chunk true 3 L.length (L.flatMap stC) = L.map stepV
  | [] => rfl
  | t :: l => by
    have := chunk_st l
    simp only [List.length_cons, List.flatMap_cons, List.map_cons, chunk]
    rw [show (stC t ++ l.flatMap stC).drop 3 = l.flatMap stC from rfl, this]
    rfl
def rpR (p : List ValLaw.Stp) : Value := .tuple ⟨[pathV p, .int .i64 0, .int .i64 0]⟩
theorem rp_fn {p : List ValLaw.Stp} (hp : okP p) : FnOK 0 Tryz.prog 8 ⟨[.string (bl (ValLaw.pathT p))]⟩ h0 (fun v _ => v = rpR p) := by
  have hck := ck_fn hp
  have hpl := pathT_len hp.2
  have hp3 := hp.1
  have hbig : decide (((bl (ValLaw.pathT p)).size : Int) > 200000) = false := by rw [bl_size]; exact decide_eq_false (by omega)
  have main : ∀ K : AExit → List Value → AH → Prop, K (.exit 0) [rO p] (rH p) → iterE 0 Tryz.prog 39 [0, 6, 5] [0] [5] [0] (oneLoop (codeOf Tryz.f8) 5) (p.length + 1) [.string (bl (ValLaw.pathT p)), .int .i64 0, nlV] h0 K := fun K hK => rp_loop hp K hK p [] rfl
  match p, hck, hbig, main with
  | [], hck, hbig, main =>
    have hsp : LSpec 0 Tryz.prog 39 (oneLoop (codeOf Tryz.f8) 5) (thenLS (hookLS 0 39 [0, 6, 5] [0] [5] (fun vals h K => (vals = [.string (bl (ValLaw.pathT [])), .int .i64 0, nlV] ∧ h = h0) ∧ K (.exit 0) [nlV] h0)) (freezeG 39 true 3 [5])) := by
      refine thenLS_ok (hookE_ok (sameX := [0]) mixed (by decide) ?_) (freezeG_ok _ _ _ _ _ _)
      rintro vals h K ⟨⟨rfl, rfl⟩, hK⟩
      exact ⟨_, main K hK⟩
    exact FnOK.ttree (spCp_ok hck).cfg mixed Tryz.func8 someRP (loops_one oneRP5 hsp) (rp_hn (bl (ValLaw.pathT [])) [] _ (fun v => v = rpR [])) (pick_f hbig ⟨⟨rfl, rfl⟩, nd_mk (eqV_self _) rfl⟩)
  | d :: l, hck, hbig, main =>
    have hsp : LSpec 0 Tryz.prog 39 (oneLoop (codeOf Tryz.f8) 5) (thenLS (hookLS 0 39 [0, 6, 5] [0] [5] (fun vals h K => (vals = [.string (bl (ValLaw.pathT (d :: l))), .int .i64 0, nlV] ∧ h = h0) ∧ K (.exit 0) [.slice (some ⟨0, 0, none⟩) (l.length + 1) (l.length + 1)] (oS ((d :: l).flatMap stC)))) (freezeG 39 true 3 [5])) := by
      refine thenLS_ok (hookE_ok (sameX := [0]) mixed (by decide) ?_) (freezeG_ok _ _ _ _ _ _)
      rintro vals h K ⟨⟨rfl, rfl⟩, hK⟩
      exact ⟨_, main K hK⟩
    have e0 := rp_hb (bl (ValLaw.pathT (d :: l))) ((d :: l).map stepV) ((d :: l).flatMap stC) (l.length + 1) (fun vals h => vals = [.string (bl (ValLaw.pathT (d :: l))), .int .i64 0, nlV] ∧ h = h0) (fun v => v = rpR (d :: l))
    rw [show chunk true 3 (l.length + 1) ((d :: l).flatMap stC) = (d :: l).map stepV from chunk_st (d :: l)] at e0
    refine FnOK.ttree (spCp_ok hck).cfg mixed Tryz.func8 someRP (loops_one oneRP5 hsp) e0 (pick_f hbig ⟨⟨rfl, rfl⟩, nd_mk ?_ (nd_mk (eqV_self _) rfl)⟩)
    rw [Nat.beq_refl, stC_all, stC_len, Nat.ble_eq_true_of_le (Nat.le_refl _), Nat.ble_eq_true_of_le (show (l.length + 1) * 3 ≤ (d :: l).length * 3 from Nat.le_refl _)]
    rfl
end Go.Proofs.YtmclppkligkooaaGreatDoor
