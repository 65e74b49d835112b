/-
  What headers say about caches: 'genSplit' and 'Parts'.
-/
import Derived.Test.YtbeodpcdjlphkaaGreatDoorCcA
namespace Go.Proofs.YtbeodpcdjlphkaaGreatDoor
open Go.Ev Go.RowKit CtrlLaw

noncomputable def SB2 : SC := ⟨idn, spOr spIx spCn, true, true⟩
theorem SB2_ok : SB2.cfg.OK Tryz.prog := (spIx_ok.or spCn_ok).cfg
def gH (cs : List Value) : AH := ⟨1, 1, [(0, .cells ⟨cs⟩ 9 (0, 0))]⟩
def ixS (s : ByteArray) : Int := Lib.indexByte s.data.toList 44
theorem gsr (s : ByteArray) (n i : Int) (m : Nat) (cs : List Value) (B : List Value → AH → Prop) (Q : AExit → List Value → AH → Prop) :
    once 0 Tryz.prog SB2 [] noHooks 600 66 [0, 1, 2, 3, 10, 9] [0] [0, 10, 9] [0] (oneLoop (codeOf Tryz.f79) 11) [.string s, .string ⟨#[44]⟩, .int .i64 0, .int .i64 n, .int .i64 i, .slice (some ⟨0, 0, none⟩) m m] (gH cs) B Q =
      bif decide (i < n) then bif decide (ixS s < 0) then NoNames (.cells ⟨cs⟩ 9 (0, 0)) ∧ Q (.exit 0) [.string s, .int .i64 i, .slice (some ⟨0, 0, none⟩) m m] (gH cs) else
        bif decide (0 ≤ IntKind.i64.wrap (ixS s + 0)) && decide (IntKind.i64.wrap (ixS s + 0) ≤ (s.size : Int)) then bif decide (0 ≤ i) && decide (i < (m : Int)) then bif (0 + i.toNat * 1 + 1).ble (Array.mk cs).size && true && true then
        bif decide (0 ≤ IntKind.i64.wrap (ixS s + 1)) && decide (IntKind.i64.wrap (ixS s + 1) ≤ (s.size : Int)) && decide ((s.size : Int) ≤ (s.size : Int)) then
          NoNames (.cells (putAll ⟨cs⟩ (0 + i.toNat * 1) [.string (s.extract 0 (IntKind.i64.wrap (ixS s + 0)).toNat)]) 9 (0, 0)) ∧
          B [.string (s.extract (IntKind.i64.wrap (ixS s + 1)).toNat s.size), .string ⟨#[44]⟩, .int .i64 0, .int .i64 n, .int .i64 (IntKind.i64.wrap (i + 1)), .slice (some ⟨0, 0, none⟩) m m] ⟨1, 1, [(0, .cells (putAll ⟨cs⟩ (0 + i.toNat * 1) [.string (s.extract 0 (IntKind.i64.wrap (ixS s + 0)).toNat)]) 9 (0, 0))]⟩
        else False else False else False else False
      else NoNames (.cells ⟨cs⟩ 9 (0, 0)) ∧ Q (.exit 0) [.string s, .int .i64 i, .slice (some ⟨0, 0, none⟩) m m] (gH cs) := by kernel_rfl
theorem nnS (D : List (List UInt8)) (t : TypeId) (fr : Nat × Nat) : NoNames (.cells ⟨D.map strV⟩ t fr) := by
  intro v hv
  obtain ⟨d, _, rfl⟩ := List.mem_map.1 (show v ∈ D.map strV from hv)
  rfl
theorem put_one {D : List (List UInt8)} {i : Nat} (q : List UInt8) (hi : i < D.length) : putAll ⟨D.map strV⟩ (0 + (i : Int).toNat * 1) [strV q] = ⟨(D.set i q).map strV⟩ := by
  rw [putAll_eq _ _ _ (by show 0 + (i : Int).toNat * 1 + 1 ≤ (D.map strV).length; rw [List.length_map]; omega)]
  show (⟨(D.map strV).take (0 + i * 1) ++ [strV q] ++ (D.map strV).drop (0 + i * 1 + 1)⟩ : Array Value) = _
  rw [Nat.zero_add, Nat.mul_one, List.map_set, List.set_eq_take_append_cons_drop, if_pos (by rw [List.length_map]; exact hi)]
  simp
theorem gs_loop {n : Nat} (hn : n ≤ 1000) : ∀ (r : List (List UInt8)) (q : List UInt8) (i : Nat) (D : List (List UInt8)), (44 : UInt8) ∉ q → (∀ p ∈ r, (44 : UInt8) ∉ p) → i + r.length = n → D.length = n + 1 → (body q r).length ≤ 100000 →
    ∃ (D' : List (List UInt8)) (q2 : List UInt8), D'.length = n + 1 ∧ D'.take n ++ [q2] = D.take i ++ q :: r.map (32 :: ·) ∧ ∀ K : AExit → List Value → AH → Prop,
      K (.exit 0) [strV q2, .int .i64 (n : Int), .slice (some ⟨0, 0, none⟩) (n + 1) (n + 1)] (gH (D'.map strV)) →
      iter 0 Tryz.prog SB2 [] noHooks 600 66 [0, 1, 2, 3, 10, 9] [0] [0, 10, 9] [0] (oneLoop (codeOf Tryz.f79) 11) (r.length + 1) [.string (bl (body q r)), .string ⟨#[44]⟩, .int .i64 0, .int .i64 (n : Int), .int .i64 (i : Int), .slice (some ⟨0, 0, none⟩) (n + 1) (n + 1)] (gH (D.map strV)) K
  | [], q, i, D, h1, h2, h3, h4, h5 => by
    have hi : i = n := by simpa using h3
    subst hi
    refine ⟨D, q, h4, rfl, fun K hK => ?_⟩
    rw [body_nil]
    exact (gsr _ _ _ _ _ _ K).mpr (pick_f (by simp) ⟨nnS D _ _, hK⟩)
  | p :: r, q, i, D, h1, h2, h3, h4, h5 => by
    have hb := body_cons q p r
    have hlen : (body q (p :: r)).length = q.length + 1 + (body (32 :: p) r).length := by rw [hb]; simp; omega
    have h3' : i + 1 + r.length = n := by rw [List.length_cons] at h3; omega
    obtain ⟨D', q2, y1, y2, y3⟩ := gs_loop hn r (32 :: p) (i + 1) (D.set i q) (fun e => by
      rcases List.mem_cons.1 e with e | e
      · cases e
      · exact h2 p (by simp) e) (fun x hx => h2 x (by simp [hx])) h3' (by rw [List.length_set, h4]) (by omega)
    have hset : (D.set i q).take (i + 1) = D.take i ++ [q] := by
      rw [List.take_add_one, List.getElem?_set_self (by omega), List.take_set_of_le (Nat.le_refl _)]
      rfl
    refine ⟨D', q2, y1, by rw [y2, hset]; simp, fun K hK => ?_⟩
    have hix : ixS (bl (body q (p :: r))) = (q.length : Int) := by
      unfold ixS
      rw [bl_list, hb]
      exact idx_at _ h1
    have hsz := bl_size (body q (p :: r))
    have w0 : IntKind.i64.wrap ((q.length : Int) + 0) = (q.length : Int) := by rw [Int.add_zero]; exact wrap_id _ (by omega) (by omega)
    have w1 : IntKind.i64.wrap ((q.length : Int) + 1) = ((q.length + 1 : Nat) : Int) := wrap1 (by omega)
    have c1 : (bl (body q (p :: r))).extract 0 (q.length : Int).toNat = bl q := by
      show (bl (body q (p :: r))).extract 0 q.length = _
      rw [bl_cut _ _ _ (by omega), hb]
      simp
    have c2 : (bl (body q (p :: r))).extract ((q.length + 1 : Nat) : Int).toNat (bl (body q (p :: r))).size = bl (body (32 :: p) r) := by
      show (bl (body q (p :: r))).extract (q.length + 1) (bl (body q (p :: r))).size = _
      rw [hsz, bl_cut _ _ _ (Nat.le_refl _), List.take_length, hb]
      congr 1
      rw [List.drop_append, List.drop_of_length_le (by omega), List.nil_append, Nat.add_sub_cancel_left]
      rfl
    refine (gsr _ _ _ _ _ _ K).mpr ?_
    rw [hix, w0, w1, c1, c2]
    refine pick_t (decide_eq_true (by omega)) (pick_f (decide_eq_false (by omega)) (need_mk (by simp; omega) (need_mk (by simp; omega) (need_mk ?_ (need_mk (by simp; omega) ?_)))))
    · have : (0 + (i : Int).toNat * 1 + 1).ble (Array.mk (D.map strV)).size = true := by
        rw [Nat.ble_eq]
        show 0 + (i : Int).toNat * 1 + 1 ≤ (D.map strV).length
        rw [List.length_map]; omega
      rw [this]; rfl
    · have hp := put_one (D := D) (i := i) q (by omega)
      have hp : putAll ⟨D.map strV⟩ (0 + (i : Int).toNat * 1) [.string (bl q)] = ⟨(D.set i q).map strV⟩ := hp
      rw [hp, wrap1 (by omega)]
      exact ⟨nnS _ _ _, y3 K hK⟩
def sC : Array Value := #[.string ⟨#[]⟩]
noncomputable def nS (s : ByteArray) : Int := if IntKind.i64.wrap ((s.size : Int) + 1) < IntKind.i64.wrap ((Lib.countByte s.data.toList 44 : Int) + 1) then IntKind.i64.wrap ((s.size : Int) + 1) else IntKind.i64.wrap ((Lib.countByte s.data.toList 44 : Int) + 1)
noncomputable def gsE (s2 : ByteArray) (cs : List Value) (k m : Nat) (Q : Value → AH → Prop) : Prop :=
  bif decide ((k : Int) < (m : Int)) then bif (0 + k * 1 + 1).ble (Array.mk cs).size && true && true then bif decide (0 ≤ IntKind.i64.wrap ((k : Int) + 1)) && decide (IntKind.i64.wrap ((k : Int) + 1) ≤ (m : Int)) then
    bif Nat.beq 0 m then Q (.slice (some ⟨0, 0, none⟩) ((IntKind.i64.wrap ((k : Int) + 1)).toNat - 0) (m - 0)) ⟨1, 0, [(0, .cells (putAll ⟨cs⟩ (0 + k * 1) [.string s2]) 9 (1, 1))]⟩
    else Q (.slice (some ⟨0, 0, none⟩) ((IntKind.i64.wrap ((k : Int) + 1)).toNat - 0) (m - 0)) ⟨1, 0, [(0, .cells (putAll ⟨cs⟩ (0 + k * 1) [.string s2]) 9 (1, 1))]⟩
  else False else False else False
theorem gsf (s s2 : ByteArray) (m k : Nat) (cs : List Value) (C : List Value → AH → Prop) (Q : Value → AH → Prop) :
    tfn Tryz.prog SB2 [] (hook1 11 (thenLS (hookLS 0 66 [0, 1, 2, 3, 10, 9] [0] [0, 10, 9] (fun vals h K => C vals h ∧ K (.exit 0) [.string s2, .int .i64 (k : Int), .slice (some ⟨0, 0, none⟩) m m] (gH cs))) (markG 9))) 600 [] Tryz.f79 [.string s, .string ⟨#[44]⟩, .int .i64 0, .int .i64 (-1)] h0 Q =
      bif decide (0 ≤ nS s) && decide (nS s ≤ nS s) && decide (nS s ≤ 9223372036854775807) && ((nS s).toNat * 16).ble 140737488355328 && (((nS s).toNat * 1).beq 0 || true) then
        NoNames (.cells ⟨zlist sC ((nS s).toNat * 1)⟩ 9 (0, 0)) ∧ C [.string s, .string ⟨#[44]⟩, .int .i64 0, .int .i64 (IntKind.i64.wrap (nS s - 1)), .int .i64 0, .slice (some ⟨0, 0, none⟩) (nS s).toNat (nS s).toNat] (gH (zlist sC ((nS s).toNat * 1))) ∧ gsE s2 cs k m Q
      else False := by kernel_rfl
theorem zl_rep (n : Nat) : zlist sC n = (List.replicate n ([] : List UInt8)).map strV := by
  have e : (fun i => sC[i % sC.size]?.getD undef) = fun _ : Nat => strV [] := by
    funext i
    have : i % sC.size = 0 := Nat.mod_one i
    rw [this]
    rfl
  show (List.range n).map (fun i => sC[i % sC.size]?.getD undef) = _
  rw [e, List.map_const', List.length_range, List.map_replicate]
theorem oneGS : (loopAt (codeOf Tryz.f79) 11).length = 1 := by kernel_rfl
theorem someGS : Tryz.f79.body.isSome = true := by kernel_rfl
theorem strV_map (D : List (List UInt8)) : (D.map bl).map Value.string = D.map strV := by rw [List.map_map]; rfl
theorem freezeS {p : Nat} {P : Program} {h : AH} {b : Nat} {t : TypeId} {fr : Nat × Nat} (D : List (List UInt8)) {m : Nat} (hm : D.length = m) (hb : h.get b = some (.cells ⟨D.map strV⟩ t fr)) :
    Weak p P #[.slice (some ⟨b, 0, none⟩) m m] h #[fz ⟨D.map strV⟩] (h.del b) := by
  have := freeze1 (p := p) (P := P) (h := h) (b := b) (t := t) (fr := fr) (D.map bl) (m := m) (by rw [List.length_map, hm]) (by rw [strV_map]; exact hb)
  rw [strV_map] at this
  exact this
theorem gs_fn {q : List UInt8} {r : List (List UInt8)} (h1 : (44 : UInt8) ∉ q) (h2 : ∀ p ∈ r, (44 : UInt8) ∉ p) (h3 : r.length ≤ 1000) (h4 : (body q r).length ≤ 100000) :
    FnOK 0 Tryz.prog 79 ⟨[.string (bl (body q r)), .string ⟨#[44]⟩, .int .i64 0, .int .i64 (-1)]⟩ h0 (fun v _ => v = fz ⟨(q :: r.map (32 :: ·)).map strV⟩) := by
  obtain ⟨D, q2, y1, y2, y3⟩ := gs_loop (n := r.length) h3 r q 0 (List.replicate (r.length + 1) []) h1 h2 (by omega) (by simp) h4
  have hcnt : (Lib.countByte (bl (body q r)).data.toList 44 : Int) = (r.length : Int) := by rw [bl_list, count_body r q h1 h2]
  have hsz : (bl (body q r)).size = (body q r).length := bl_size _
  have hle : r.length ≤ (body q r).length := by
    have := count_body r q h1 h2
    unfold Lib.countByte at this
    rw [← this]
    exact List.count_le_length
  have hn : nS (bl (body q r)) = ((r.length + 1 : Nat) : Int) := by
    unfold nS
    rw [hcnt, hsz, wrap1 (i := r.length) (by omega), wrap1 (i := (body q r).length) (by omega)]
    split
    · omega
    · rfl
  have hz : zlist sC (((r.length + 1 : Nat) : Int).toNat * 1) = (List.replicate (r.length + 1) ([] : List UInt8)).map strV := by
    rw [Nat.mul_one]; exact zl_rep _
  have hw : IntKind.i64.wrap (((r.length + 1 : Nat) : Int) - 1) = (r.length : Int) := by rw [wrap_id _ (by omega) (by omega)]; omega
  have hsp : LSpec 0 Tryz.prog 66 (oneLoop (codeOf Tryz.f79) 11) (thenLS (hookLS 0 66 [0, 1, 2, 3, 10, 9] [0] [0, 10, 9] (fun vals h K => (vals = [.string (bl (body q r)), .string ⟨#[44]⟩, .int .i64 0, .int .i64 (r.length : Int), .int .i64 0, .slice (some ⟨0, 0, none⟩) (r.length + 1) (r.length + 1)] ∧ h = gH ((List.replicate (r.length + 1) ([] : List UInt8)).map strV)) ∧
      K (.exit 0) [.string (bl q2), .int .i64 (r.length : Int), .slice (some ⟨0, 0, none⟩) (r.length + 1) (r.length + 1)] (gH (D.map strV)))) (markG 9)) := by
    refine thenLS_ok (hook_ok (G := []) (L := noHooks) (f := 600) (sameX := [0]) SB2_ok mixed (by decide) (loops_none _ _ _ _) ?_) (markG_ok _ _ _ _)
    rintro vals h K ⟨⟨rfl, rfl⟩, hK⟩
    exact ⟨_, y3 K hK⟩
  refine FnOK.weak1 (FnOK.ttree SB2_ok mixed Tryz.func79 someGS (loops_one oneGS hsp) (gsf (bl (body q r)) (bl q2) (r.length + 1) r.length (D.map strV) _ _) ?_)
  rw [hn, hz, hw]
  refine need_mk ?_ ⟨nnS _ _ _, ⟨rfl, rfl⟩, ?_⟩
  · simp only [Bool.and_eq_true, decide_eq_true_eq, Nat.ble_eq, Bool.or_true]
    refine ⟨⟨⟨⟨?_, ?_⟩, ?_⟩, ?_⟩, trivial⟩ <;> omega
  · have w2 := wrap1 (i := r.length) (by omega)
    unfold gsE
    rw [w2]
    have hpo := put_one (D := D) (i := r.length) q2 (by omega)
    have hpo : putAll ⟨D.map strV⟩ (0 + r.length * 1) [.string (bl q2)] = ⟨(D.set r.length q2).map strV⟩ := hpo
    rw [hpo]
    have hD : D.set r.length q2 = q :: r.map (32 :: ·) := by
      rw [List.set_eq_take_append_cons_drop, if_pos (by omega), List.drop_of_length_le (by omega), y2]
      simp
    have fin : ∃ v2 g2, Weak 0 Tryz.prog #[.slice (some ⟨0, 0, none⟩) (r.length + 1) (r.length + 1)] ⟨1, 0, [(0, .cells ⟨(D.set r.length q2).map strV⟩ 9 (1, 1))]⟩ #[v2] g2 ∧ v2 = fz ⟨(q :: r.map (32 :: ·)).map strV⟩ :=
      ⟨_, _, freezeS (h := ⟨1, 0, [(0, .cells ⟨(D.set r.length q2).map strV⟩ 9 (1, 1))]⟩) (b := 0) (t := 9) (fr := (1, 1)) (D.set r.length q2) (by rw [List.length_set, y1]) rfl, by rw [hD]⟩
    refine need_mk (decide_eq_true (by omega)) (need_mk ?_ (need_mk (by simp; omega) ?_))
    · have : (0 + r.length * 1 + 1).ble (Array.mk (D.map strV)).size = true := by
        rw [Nat.ble_eq]
        show 0 + r.length * 1 + 1 ≤ (D.map strV).length
        rw [List.length_map]; omega
      rw [this]; rfl
    · cases Nat.beq 0 (r.length + 1) <;> exact fin
/-- The pieces of a text: the first part, then each with a blank ahead. -/
def pieces : List Part → List (List UInt8)
  | [] => [[]]
  | q :: r => strP q :: (r.map strP).map (32 :: ·)
open Classical in
noncomputable def psOf (s : ByteArray) : List Part := if h : ∃ ps : List Part, ps.length ≤ 12 ∧ (∀ q ∈ ps, q ∈ allQ) ∧ s = txB ps then h.choose else []
theorem psOf_ok {s : ByteArray} (h : okS s = true) : (psOf s).length ≤ 12 ∧ (∀ q ∈ psOf s, q ∈ allQ) ∧ s = txB (psOf s) := by
  have h := okS_iff.1 h
  unfold psOf
  rw [dif_pos h]
  exact h.choose_spec
theorem tx_body : ∀ ps : List Part, ∃ q r, Lib.join (ps.map strP) [44, 32] = body q r ∧ pieces ps = q :: r.map (32 :: ·) ∧ r.length ≤ ps.length ∧ ((∀ p ∈ ps, p ∈ allQ) → (44 : UInt8) ∉ q ∧ ∀ p ∈ r, (44 : UInt8) ∉ p)
  | [] => ⟨[], [], rfl, rfl, Nat.le_refl _, fun _ => ⟨(fun h => by cases h), (fun p h => by cases h)⟩⟩
  | q :: r => ⟨strP q, r.map strP, by rw [List.map_cons, Lib.join_cons]; rfl, rfl, by simp, fun h => ⟨good_44 (all_good q (h q (by simp))).1, fun p hp => by
      obtain ⟨x, hx, rfl⟩ := List.mem_map.1 hp
      exact good_44 (all_good x (h x (by simp [hx]))).1⟩⟩
theorem gs_ps {ps : List Part} (h1 : ps.length ≤ 12) (h2 : ∀ q ∈ ps, q ∈ allQ) : FnOK 0 Tryz.prog 79 ⟨[.string (txB ps), .string ⟨#[44]⟩, .int .i64 0, .int .i64 (-1)]⟩ h0 (fun v _ => v = fz ⟨(pieces ps).map strV⟩) := by
  obtain ⟨q, r, e1, e2, e3, e4⟩ := tx_body ps
  obtain ⟨e5, e6⟩ := e4 h2
  have hl := tx_len h1 h2
  rw [e1] at hl
  have := gs_fn e5 e6 (by omega) (by omega)
  rw [← e1, ← e2] at this
  exact this
noncomputable def spGs (f : FuncId) (args : Array Value) (h : AH) : Option (Bool × Value × AH) :=
  cond (Nat.beq f 79) (match args with
    | ⟨[.string s, .string c, .int .i64 a, .int .i64 b]⟩ => some (okS s && isB c 44 && decide (a = 0) && decide (b = -1), fz ⟨(pieces (psOf s)).map strV⟩, h)
    | _ => none) none
theorem spGs_ok : SpOK spGs := by
  intro f args h v h' hs
  unfold spGs at hs
  obtain ⟨hf, hs2⟩ := cond_some hs
  clear hs
  have := Nat.eq_of_beq_eq_true hf
  subst this
  split at hs2
  · injection hs2 with hs
    injection hs with hb hs
    injection hs with hv hh
    subst hv hh
    rename_i s c a b
    simp only [Bool.and_eq_true, decide_eq_true_eq] at hb
    obtain ⟨⟨⟨b1, b2⟩, rfl⟩, rfl⟩ := hb
    have b2 := isB_eq (b := 44) b2
    subst b2
    obtain ⟨p1, p2, p3⟩ := psOf_ok b1
    have := gs_ps p1 p2
    rw [← p3] at this
    exact ⟨FnOK.pure this rfl rfl h, Nat.le_refl _⟩
  · cases hs2

/-! 'Parts' -/
noncomputable def SB3 : SC := ⟨idn, spOr spGs spTm, true, true⟩
theorem SB3_ok : SB3.cfg.OK Tryz.prog := (spGs_ok.or spTm_ok).cfg
def nilV : Value := .slice none 0 0
def pHN (s : ByteArray) : AH := ⟨1, 1, [(0, .cells ⟨[.string s]⟩ 9 (0, 0))]⟩
def pHB (s : ByteArray) (cs : List Value) : AH := ⟨2, 2, [(0, .cells ⟨[.string s]⟩ 9 (0, 0)), (1, .cells ⟨cs⟩ 9 (0, 0))]⟩
def ptV (vs : List Value) (out : Value) (n i : Int) : List Value := [.slice (some ⟨0, 0, none⟩) 1 1, .int .i64 1, .int .i64 0, fz ⟨vs⟩, .int .i64 n, .int .i64 i, out]
def ptX (out : Value) : List Value := [.slice (some ⟨0, 0, none⟩) 1 1, .int .i64 1, .int .i64 0, out]
noncomputable def elS (vs : List Value) (i : Int) : ByteArray := toStr ((Array.mk vs).toList.getD i.toNat undef)
noncomputable def tmS (vs : List Value) (i : Int) : ByteArray := bl (Lib.trimB (elS vs i).data.toList 32)
theorem ptN (s : ByteArray) (vs : List Value) (n i : Int) (B : List Value → AH → Prop) (Q : AExit → List Value → AH → Prop) :
    once 1 Tryz.prog SB3 [] noHooks 600 32 [8, 9, 10, 15, 16, 17, 3] [1] [8, 9, 10, 3] [1] (oneLoop (oneLoop (codeOf Tryz.f68) 3) 6) (ptV vs nilV n i) (pHN s) B Q =
      bif decide (i < n) then bif decide (0 ≤ i) && decide (i < ((Array.mk vs).size : Int)) && true then (Array.mk vs).toList.getD i.toNat (Value.tuple { toList := [] }) = .string (elS vs i) ∧
        bif Nat.ble (elS vs i).size 100000 && true then bif !((tmS vs i).toList == (ByteArray.mk #[]).toList) then
          NoNames (.cells ⟨[.string (tmS vs i)]⟩ 9 (0, 0)) ∧ B (ptV vs (.slice (some ⟨1, 0, none⟩) 1 1) n (IntKind.i64.wrap (i + 1))) (pHB s [.string (tmS vs i)])
        else B (ptV vs nilV n (IntKind.i64.wrap (i + 1))) (pHN s) else False
      else False else Q (.exit 2) (ptX nilV) (pHN s) := by kernel_rfl
theorem ptB (s : ByteArray) (vs cs : List Value) (k : Nat) (n i : Int) (B : List Value → AH → Prop) (Q : AExit → List Value → AH → Prop) :
    once 1 Tryz.prog SB3 [] noHooks 600 32 [8, 9, 10, 15, 16, 17, 3] [1] [8, 9, 10, 3] [1] (oneLoop (oneLoop (codeOf Tryz.f68) 3) 6) (ptV vs (.slice (some ⟨1, 0, none⟩) k k) n i) (pHB s cs) B Q =
      bif decide (i < n) then bif decide (0 ≤ i) && decide (i < ((Array.mk vs).size : Int)) && true then (Array.mk vs).toList.getD i.toNat (Value.tuple { toList := [] }) = .string (elS vs i) ∧
        bif Nat.ble (elS vs i).size 100000 && true then bif !((tmS vs i).toList == (ByteArray.mk #[]).toList) then
          bif (k + 1).ble k then False else bif (k + 1).ble 9223372036854775807 && ((k + 1) * 16).ble 140737488355328 then bif (0 + k * 1).ble (Array.mk cs).size && true && true then
          NoNames (.cells ⟨List.take (k * 1) (List.drop 0 (Array.mk cs).toList) ++ [.string (tmS vs i)]⟩ 9 (0, 0)) ∧ B (ptV vs (.slice (some ⟨1, 0, none⟩) (k + 1) (k + 1)) n (IntKind.i64.wrap (i + 1))) (pHB s (List.take (k * 1) (List.drop 0 (Array.mk cs).toList) ++ [.string (tmS vs i)]))
          else False else False
        else NoNames (.cells ⟨cs⟩ 9 (0, 0)) ∧ B (ptV vs (.slice (some ⟨1, 0, none⟩) k k) n (IntKind.i64.wrap (i + 1))) (pHB s cs) else False
      else False else NoNames (.cells ⟨cs⟩ 9 (0, 0)) ∧ Q (.exit 2) (ptX (.slice (some ⟨1, 0, none⟩) k k)) (pHB s cs) := by kernel_rfl
def outP : List (List UInt8) → Value
  | [] => nilV
  | t :: l => .slice (some ⟨1, 0, none⟩) (t :: l).length (t :: l).length
def pH (s : ByteArray) : List (List UInt8) → AH
  | [] => pHN s
  | t :: l => pHB s ((t :: l).map strV)
theorem not_empty : ∀ q ∈ allQ, ((bl (strP q)).toList == (ByteArray.mk #[]).toList) = false := by decide +kernel
theorem getS {Z : List (List UInt8)} {i : Nat} {z : List UInt8} (h : Z[i]? = some z) : (Array.mk (Z.map strV)).toList.getD (i : Int).toNat undef = strV z := by
  have : ((Z.map strV)[i]?).getD undef = strV z := by rw [List.getElem?_map, h]; rfl
  simpa [List.getD] using this
theorem pt_loop {s : ByteArray} {ps : List Part} (h2 : ∀ q ∈ ps, q ∈ allQ) {Z : List (List UInt8)} (hZ : Z.length = ps.length) (hl : ps.length ≤ 1000) (hz : ∀ (i : Nat) z q, Z[i]? = some z → ps[i]? = some q → Lib.trimB z 32 = strP q ∧ z.length ≤ 1000) (K : AExit → List Value → AH → Prop) :
    ∀ (r i : Nat), i + r = ps.length → K (.exit 2) (ptX (outP (ps.map strP))) (pH s (ps.map strP)) → iter 1 Tryz.prog SB3 [] noHooks 600 32 [8, 9, 10, 15, 16, 17, 3] [1] [8, 9, 10, 3] [1] (oneLoop (oneLoop (codeOf Tryz.f68) 3) 6) (r + 1) (ptV (Z.map strV) (outP ((ps.take i).map strP)) (ps.length : Int) (i : Int)) (pH s ((ps.take i).map strP)) K := by
  intro r
  induction r with
  | zero =>
    intro i h1 hK
    rw [List.take_of_length_le (by omega)]
    cases hp : ps.map strP with
    | nil => rw [hp] at hK; exact (ptN _ _ _ _ _ K).mpr (pick_f (by simp; omega) hK)
    | cons t l => rw [hp] at hK; exact (ptB _ _ _ _ _ _ _ K).mpr (pick_f (by simp; omega) ⟨nnS (t :: l) _ _, hK⟩)
  | succ r ih =>
    intro i h1 hK
    have hi : i < ps.length := by omega
    have hq : ps[i]? = some ps[i] := List.getElem?_eq_getElem hi
    have hzi : Z[i]? = some (Z[i]'(by omega)) := List.getElem?_eq_getElem (by omega)
    generalize ps[i] = q at hq
    generalize Z[i]'(by omega) = z at hzi
    obtain ⟨g1, g2⟩ := hz i z q hzi hq
    have hqa : q ∈ allQ := h2 q (List.mem_of_getElem? hq)
    have hg := getS hzi
    have hel : elS (Z.map strV) (i : Int) = bl z := by unfold elS; rw [hg]; rfl
    have htm : tmS (Z.map strV) (i : Int) = bl (strP q) := by unfold tmS; rw [hel, bl_list, g1]
    have hts : (ps.take (i + 1)).map strP = (ps.take i).map strP ++ [strP q] := by rw [List.take_add_one, hq]; simp
    have hsz : (Array.mk (Z.map strV)).size = ps.length := by rw [← hZ]; simp
    have hin : (decide (0 ≤ (i : Int)) && decide ((i : Int) < ((Array.mk (Z.map strV)).size : Int)) && true) = true := by rw [hsz]; simp; omega
    have hne : (!((bl (strP q)).toList == (ByteArray.mk #[]).toList)) = true := by rw [not_empty q hqa]; rfl
    have hbs : (Nat.ble (bl z).size 100000 && true) = true := by rw [bl_size, Nat.ble_eq_true_of_le (by omega)]; rfl
    have next := ih (i + 1) (by omega) hK
    rw [hts] at next
    have hlen : ((ps.take i).map strP).length = i := by rw [List.length_map, List.length_take]; omega
    cases hO : (ps.take i).map strP with
    | nil =>
      rw [hO] at next
      refine (ptN _ _ _ _ _ K).mpr (pick_t (decide_eq_true (by omega)) (need_mk hin ?_))
      rw [hel, htm]
      refine ⟨hg, need_mk hbs (pick_t hne ⟨?_, ?_⟩)⟩
      · exact nnS [strP q] _ _
      · rw [wrap1 (by omega)]; exact next
    | cons t l =>
      rw [hO] at next hlen
      have hfl : List.take ((t :: l).length * 1) (List.drop 0 (Array.mk ((t :: l).map strV)).toList) = (t :: l).map strV := by
        rw [List.drop_zero, Nat.mul_one]
        exact List.take_of_length_le (by show ((t :: l).map strV).length ≤ _; rw [List.length_map]; exact Nat.le_refl _)
      refine (ptB _ _ _ _ _ _ _ K).mpr (pick_t (decide_eq_true (by omega)) (need_mk hin ?_))
      rw [hel, htm]
      refine ⟨hg, need_mk hbs (pick_t hne (pick_f (ble_ss _) (need_mk ?_ (need_mk ?_ ?_))))⟩
      · rw [Bool.and_eq_true, Nat.ble_eq, Nat.ble_eq]; omega
      · have : (0 + (t :: l).length * 1).ble (Array.mk ((t :: l).map strV)).size = true := by
          rw [Nat.ble_eq]
          show 0 + (t :: l).length * 1 ≤ ((t :: l).map strV).length
          rw [List.length_map]; omega
        rw [this]; rfl
      · have e1 : (t :: l).map strV ++ [.string (bl (strP q))] = ((t :: l) ++ [strP q]).map strV := by rw [List.map_append]; rfl
        rw [hfl, e1, wrap1 (by omega)]
        refine ⟨nnS _ _ _, ?_⟩
        have e3 : outP ((t :: l) ++ [strP q]) = .slice (some ⟨1, 0, none⟩) ((t :: l).length + 1) ((t :: l).length + 1) := by
          show Value.slice (some ⟨1, 0, none⟩) ((t :: l) ++ [strP q]).length ((t :: l) ++ [strP q]).length = _
          rw [List.length_append]; rfl
        rw [e3] at next
        exact next
end Go.Proofs.YtbeodpcdjlphkaaGreatDoor
