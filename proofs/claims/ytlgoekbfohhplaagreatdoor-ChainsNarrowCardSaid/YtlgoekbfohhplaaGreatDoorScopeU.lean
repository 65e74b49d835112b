/-
  'Delegate' as a specification; 'Covers', 'coverAll' and 'Equal' for lists that are nil or frozen.
-/
import Derived.Test.YtlgoekbfohhplaaGreatDoorScopeQ
namespace Go.Proofs.YtlgoekbfohhplaaGreatDoor
open Go.Ev Go.RowKit ScopeLaw

theorem okW_nrm {a : Value} (h : okW a = true) : nrm a = fz ⟨unF a⟩ ∧ tenR (unF a) = true := by
  unfold okW at h
  split at h
  · exact ⟨rfl, rfl⟩
  · exact ⟨rfl, h⟩
  · cases h
theorem okAud_nrm {a : Value} (h : okAud a = true) : nrm a = fz ⟨unF a⟩ ∧ (unF a).all isStr = true ∧ (unF a).length ≤ 2 := by
  unfold okAud at h
  split at h
  · exact ⟨rfl, rfl, Nat.zero_le _⟩
  · exact ⟨rfl, aud_str h, aud_len h⟩
  · cases h
theorem okSc_W {a : Value} (h : okSc a = true) : okW a = true := by
  unfold okSc at h
  split at h
  · rfl
  · exact nineR_ten (fourR_nine (lstB_iff.1 h).1).1
  · cases h
theorem okScs_W {a : Value} (h : okScs a = true) : okW a = true := by
  unfold okScs at h
  split at h
  · rfl
  · rw [Bool.and_eq_true] at h
    exact nineR_ten (fourR_nine h.1).1
  · cases h
theorem okScs_p1 {a : Value} (h : okScs a = true) : p1 a = true := by
  unfold okScs at h
  split at h
  · rfl
  · rfl
  · cases h
theorem okScs_sc {a : Value} (h : okScs a = true) : okSc (leV a) = true := by
  unfold okScs at h
  split at h
  · rfl
  · rename_i vs
    rw [Bool.and_eq_true, Nat.ble_eq] at h
    refine lstB_iff.2 ?_
    obtain ⟨n1, n4⟩ := fourR_nine h.1
    obtain ⟨_, hin, _, _⟩ := nineR_ok n1
    have hlen : (leastV vs).length ≤ 4 := by
      unfold leastV leastR
      rw [List.length_map]
      refine Nat.le_trans (List.length_filter_le _ _) ?_
      have := cut_le (srt (vs.map unS))
      rw [srt_len, List.length_map] at this
      exact Nat.le_trans this n4
    refine ⟨?_, ?_, ?_⟩
    · simp only [fourR, Bool.and_eq_true, Nat.ble_eq]
      refine ⟨?_, hlen⟩
      have hn : nineR (leastV vs) = true := nineR_mk (fun x hx => hin x ((rising_mem _ x).1 (mem_least.1 hx).1)) (by
        have : (leastV vs).length = (leastR (vs.map unS)).length := by unfold leastV; rw [List.length_map]
        omega)
      simp only [nineR, Bool.and_eq_true] at hn
      exact hn.1
    · have hne := leastR_ne (fun x hx => nine_ten x (hin x hx)) (l := vs.map unS) (by intro q; rw [List.map_eq_nil_iff] at q; rw [q] at h; simp at h)
      unfold leastV
      rw [List.length_map]
      exact List.length_pos_iff.2 hne
    · unfold leastV
      rw [un_map, least_idem]
  · cases h
def spCoW (f : FuncId) (args : Array Value) (h : AH) : Option (Bool × Value × AH) :=
  cond (Nat.beq f 9) (match args with
    | ⟨[a, b]⟩ => some (okW a && okW b, .tuple ⟨[.bool (allV (unF a) (unF b)), .int .i64 0]⟩, h)
    | _ => none) none
theorem spCoW_ok : SpOK spCoW := by
  intro f args h v h' hs
  unfold spCoW at hs
  obtain ⟨hf, hs2⟩ := cond_some hs
  clear hs
  have := Nat.eq_of_beq_eq_true hf
  subst this
  split at hs2
  · injection hs2 with hs
    injection hs with hb hs
    injection hs with hv hh
    subst hv hh
    rw [Bool.and_eq_true] at hb
    obtain ⟨e1, t1⟩ := okW_nrm hb.1
    obtain ⟨e2, t2⟩ := okW_nrm hb.2
    refine spCo_ok.nrm 9 _ h _ h ?_
    show spCo 9 ⟨[nrm _, nrm _]⟩ h = _
    rw [e1, e2]
    show some (tenR _ && tenR _, _, h) = _
    rw [t1, t2]
    rfl
  · cases hs2
def spCaW (f : FuncId) (args : Array Value) (h : AH) : Option (Bool × Value × AH) :=
  cond (Nat.beq f 21) (match args with
    | ⟨[a, b]⟩ => some (okW a && okW b, .bool (allV (unF a) (unF b)), h)
    | _ => none) none
theorem spCaW_ok : SpOK spCaW := by
  intro f args h v h' hs
  unfold spCaW at hs
  obtain ⟨hf, hs2⟩ := cond_some hs
  clear hs
  have := Nat.eq_of_beq_eq_true hf
  subst this
  split at hs2
  · injection hs2 with hs
    injection hs with hb hs
    injection hs with hv hh
    subst hv hh
    rw [Bool.and_eq_true] at hb
    obtain ⟨e1, t1⟩ := okW_nrm hb.1
    obtain ⟨e2, t2⟩ := okW_nrm hb.2
    refine spCa_ok.nrm 21 _ h _ h ?_
    show spCa 21 ⟨[nrm _, nrm _]⟩ h = _
    rw [e1, e2]
    show some (tenR _ && tenR _, _, h) = _
    rw [t1, t2]
    rfl
  · cases hs2
noncomputable def spEqW (f : FuncId) (args : Array Value) (h : AH) : Option (Bool × Value × AH) :=
  cond (Nat.beq f 66) (match args with
    | ⟨[a, b]⟩ => some (okAud a && okAud b, .bool (eqS (unF a) (unF b)), h)
    | _ => none) none
theorem spEqW_ok : SpOK spEqW := by
  intro f args h v h' hs
  unfold spEqW at hs
  obtain ⟨hf, hs2⟩ := cond_some hs
  clear hs
  have := Nat.eq_of_beq_eq_true hf
  subst this
  split at hs2
  · injection hs2 with hs
    injection hs with hb hs
    injection hs with hv hh
    subst hv hh
    rw [Bool.and_eq_true] at hb
    obtain ⟨e1, s1, l1⟩ := okAud_nrm hb.1
    obtain ⟨e2, s2, l2⟩ := okAud_nrm hb.2
    refine spEq_ok.nrm 66 _ h _ h ?_
    show spEq 66 ⟨[nrm _, nrm _]⟩ h = _
    rw [e1, e2]
    show some (_ && _ && Nat.ble _ 4000, _, h) = _
    rw [s1, s2, Nat.ble_eq_true_of_le (by omega)]
    rfl
  · cases hs2
noncomputable def SDl : SC := ⟨idn, spOr spKy (spOr spCC (spOr spCl (spOr (spNrm spCk) (spOr (spNrm spCa) spLe2)))), true, true⟩
theorem SDl_ok : SDl.cfg.OK Tryz.prog := (spKy_ok.or (spCC_ok.or (spCl_ok.or (spCk_ok.nrm.or (spCa_ok.nrm.or spLe2_ok))))).cfg
theorem someDL : Tryz.f13.body.isSome = true := by kernel_rfl
/-- Claims, or none. -/
def cV (b : Bool) (id sub iss par : ByteArray) (aud sc : Value) (fr to : Int) : Value :=
  .agg ⟨[.string (cond b id ⟨#[]⟩), .string (cond b sub ⟨#[]⟩), .string (cond b iss ⟨#[]⟩), .string (cond b par ⟨#[]⟩), cond b aud (.slice none 0 0), cond b sc (.slice none 0 0), .int .i64 (cond b fr 0), .int .i64 (cond b to 0)]⟩
def dV (e : Int) (id sub iss par : ByteArray) (aud sc : Value) (fr to : Int) : Value := .tuple ⟨[cV (e == 0) id sub iss par aud sc fr to, .int .i64 e]⟩
def eV (e : Int) : Value := .tuple ⟨[.agg ⟨[.string ⟨#[]⟩, .string ⟨#[]⟩, .string ⟨#[]⟩, .string ⟨#[]⟩, .slice none 0 0, .slice none 0 0, .int .i64 0, .int .i64 0]⟩, .int .i64 e]⟩
theorem dV_e {e : Int} (h : (e == 0) = false) (id sub iss par : ByteArray) (aud sc : Value) (fr to : Int) : dV e id sub iss par aud sc fr to = eV e := by
  unfold dV
  rw [h]
  rfl
/-- The error of 'Delegate'. -/
def dE (id0 id : ByteArray) (psc scs : Value) (fr to wf wt : Int) : Int :=
  cond (ccE fr to != 0) (ccE fr to) (cond (id.toList == id0.toList) 14 (cond (!allV (unF psc) (unF scs)) 16 (cond (decide (wf < fr)) 16 (cond (decide (wt > to)) 16 (ccE wf wt)))))
theorem p2_of {v : Value} (h : p1 v = true) : p2 v = true := by
  unfold p2
  split
  · simp [p1] at h
  · simp [p1] at h
  · exact h
noncomputable def dlT (id0 sub0 iss0 par0 id sub : ByteArray) (aud psc scs : Value) (fr to wf wt : Int) (Q : Value → Prop) : Prop :=
  cond (inKey id0 && inKey sub0 && inKey iss0 && okPar par0 && okAud aud && okSc psc) (cond (ccE fr to != 0) (Q (eV (ccE fr to)))
    (cond (tenR (unF scs)) (cond (inKey id) (cond (inKey sub) (cond (id.toList == id0.toList) (Q (eV 14)) (cond (tenR (unF scs) && tenR (unF psc)) (cond (!allV (unF psc) (unF scs)) (Q (eV 16)) (cond (decide (wf < fr)) (Q (eV 16)) (cond (decide (wt > to)) (Q (eV 16))
      (cond (okAud aud) (cond (okLe scs) (cond (inKey id && inKey sub && inKey iss0 && okPar id0 && okAud aud && okSc (leV scs)) (cond (ccE wf wt != 0) (Q (eV (ccE wf wt)))
        (Q (.tuple ⟨[.agg ⟨[.string id, .string sub, .string iss0, .string id0, aud, leV scs, .int .i64 wf, .int .i64 wt]⟩, .int .i64 0]⟩))) False) False) False)))) False)) False) False) False)) False
theorem dlNNN (id0 sub0 iss0 par0 id sub : ByteArray) (A P S : List Value) (fr to wf wt : Int) (Q : Value → Prop) : ffn Tryz.prog SDl [] 3000 [] Tryz.f13 [.agg ⟨[.string id0, .string sub0, .string iss0, .string par0, .slice none 0 0, .slice none 0 0, .int .i64 fr, .int .i64 to]⟩, .string id, .string sub, .slice none 0 0, .agg ⟨[.int .i64 wf, .int .i64 wt]⟩] h0 (fun v _ => Q v) =
    dlT id0 sub0 iss0 par0 id sub (.slice none 0 0) (.slice none 0 0) (.slice none 0 0) fr to wf wt Q := by kernel_rfl
theorem dlNNS (id0 sub0 iss0 par0 id sub : ByteArray) (A P S : List Value) (fr to wf wt : Int) (Q : Value → Prop) : ffn Tryz.prog SDl [] 3000 [] Tryz.f13 [.agg ⟨[.string id0, .string sub0, .string iss0, .string par0, .slice none 0 0, .slice none 0 0, .int .i64 fr, .int .i64 to]⟩, .string id, .string sub, fz ⟨S⟩, .agg ⟨[.int .i64 wf, .int .i64 wt]⟩] h0 (fun v _ => Q v) =
    dlT id0 sub0 iss0 par0 id sub (.slice none 0 0) (.slice none 0 0) (fz ⟨S⟩) fr to wf wt Q := by kernel_rfl
theorem dlNPN (id0 sub0 iss0 par0 id sub : ByteArray) (A P S : List Value) (fr to wf wt : Int) (Q : Value → Prop) : ffn Tryz.prog SDl [] 3000 [] Tryz.f13 [.agg ⟨[.string id0, .string sub0, .string iss0, .string par0, .slice none 0 0, fz ⟨P⟩, .int .i64 fr, .int .i64 to]⟩, .string id, .string sub, .slice none 0 0, .agg ⟨[.int .i64 wf, .int .i64 wt]⟩] h0 (fun v _ => Q v) =
    dlT id0 sub0 iss0 par0 id sub (.slice none 0 0) (fz ⟨P⟩) (.slice none 0 0) fr to wf wt Q := by kernel_rfl
theorem dlNPS (id0 sub0 iss0 par0 id sub : ByteArray) (A P S : List Value) (fr to wf wt : Int) (Q : Value → Prop) : ffn Tryz.prog SDl [] 3000 [] Tryz.f13 [.agg ⟨[.string id0, .string sub0, .string iss0, .string par0, .slice none 0 0, fz ⟨P⟩, .int .i64 fr, .int .i64 to]⟩, .string id, .string sub, fz ⟨S⟩, .agg ⟨[.int .i64 wf, .int .i64 wt]⟩] h0 (fun v _ => Q v) =
    dlT id0 sub0 iss0 par0 id sub (.slice none 0 0) (fz ⟨P⟩) (fz ⟨S⟩) fr to wf wt Q := by kernel_rfl
theorem dlANN (id0 sub0 iss0 par0 id sub : ByteArray) (A P S : List Value) (fr to wf wt : Int) (Q : Value → Prop) : ffn Tryz.prog SDl [] 3000 [] Tryz.f13 [.agg ⟨[.string id0, .string sub0, .string iss0, .string par0, fz ⟨A⟩, .slice none 0 0, .int .i64 fr, .int .i64 to]⟩, .string id, .string sub, .slice none 0 0, .agg ⟨[.int .i64 wf, .int .i64 wt]⟩] h0 (fun v _ => Q v) =
    dlT id0 sub0 iss0 par0 id sub (fz ⟨A⟩) (.slice none 0 0) (.slice none 0 0) fr to wf wt Q := by kernel_rfl
theorem dlANS (id0 sub0 iss0 par0 id sub : ByteArray) (A P S : List Value) (fr to wf wt : Int) (Q : Value → Prop) : ffn Tryz.prog SDl [] 3000 [] Tryz.f13 [.agg ⟨[.string id0, .string sub0, .string iss0, .string par0, fz ⟨A⟩, .slice none 0 0, .int .i64 fr, .int .i64 to]⟩, .string id, .string sub, fz ⟨S⟩, .agg ⟨[.int .i64 wf, .int .i64 wt]⟩] h0 (fun v _ => Q v) =
    dlT id0 sub0 iss0 par0 id sub (fz ⟨A⟩) (.slice none 0 0) (fz ⟨S⟩) fr to wf wt Q := by kernel_rfl
theorem dlAPN (id0 sub0 iss0 par0 id sub : ByteArray) (A P S : List Value) (fr to wf wt : Int) (Q : Value → Prop) : ffn Tryz.prog SDl [] 3000 [] Tryz.f13 [.agg ⟨[.string id0, .string sub0, .string iss0, .string par0, fz ⟨A⟩, fz ⟨P⟩, .int .i64 fr, .int .i64 to]⟩, .string id, .string sub, .slice none 0 0, .agg ⟨[.int .i64 wf, .int .i64 wt]⟩] h0 (fun v _ => Q v) =
    dlT id0 sub0 iss0 par0 id sub (fz ⟨A⟩) (fz ⟨P⟩) (.slice none 0 0) fr to wf wt Q := by kernel_rfl
theorem dlAPS (id0 sub0 iss0 par0 id sub : ByteArray) (A P S : List Value) (fr to wf wt : Int) (Q : Value → Prop) : ffn Tryz.prog SDl [] 3000 [] Tryz.f13 [.agg ⟨[.string id0, .string sub0, .string iss0, .string par0, fz ⟨A⟩, fz ⟨P⟩, .int .i64 fr, .int .i64 to]⟩, .string id, .string sub, fz ⟨S⟩, .agg ⟨[.int .i64 wf, .int .i64 wt]⟩] h0 (fun v _ => Q v) =
    dlT id0 sub0 iss0 par0 id sub (fz ⟨A⟩) (fz ⟨P⟩) (fz ⟨S⟩) fr to wf wt Q := by kernel_rfl
theorem ne_t {a b : Int} (h : (a != b) = true) : (a == b) = false := by simpa [bne] using h
theorem ne_f {a b : Int} (h : (a != b) = false) : a = b := by simpa [bne] using h
theorem dlT_ok {id0 sub0 iss0 par0 id sub : ByteArray} {aud psc scs : Value} {fr to wf wt : Int} {Q : Value → Prop} (h1 : inKey id0 = true) (h2 : inKey sub0 = true) (h3 : inKey iss0 = true) (h4 : okPar par0 = true) (h5 : okAud aud = true) (h6 : okSc psc = true) (h7 : inKey id = true) (h8 : inKey sub = true) (h9 : okScs scs = true)
    (hQ : Q (dV (dE id0 id psc scs fr to wf wt) id sub iss0 id0 aud (leV scs) wf wt)) : dlT id0 sub0 iss0 par0 id sub aud psc scs fr to wf wt Q := by
  have t1 := (okW_nrm (okScs_W h9)).2
  have t2 := (okW_nrm (okSc_W h6)).2
  have p0 : okPar id0 = true := by unfold okPar; rw [h1, Bool.or_true]
  unfold dE at hQ
  refine need_mk (by rw [h1, h2, h3, h4, h5, h6]; rfl) ?_
  cases c1 : (ccE fr to != 0) with
  | true =>
    rw [c1, cond_true, dV_e (ne_t c1)] at hQ
    exact hQ
  | false =>
    rw [c1, cond_false] at hQ
    refine need_mk t1 (need_mk h7 (need_mk h8 ?_))
    cases c2 : (id.toList == id0.toList) with
    | true =>
      rw [c2, cond_true, dV_e rfl] at hQ
      exact hQ
    | false =>
      rw [c2, cond_false] at hQ
      refine need_mk (by rw [t1, t2]; rfl) ?_
      cases c3 : (!allV (unF psc) (unF scs)) with
      | true =>
        rw [c3, cond_true, dV_e rfl] at hQ
        exact hQ
      | false =>
        rw [c3, cond_false] at hQ
        cases c4 : decide (wf < fr) with
        | true =>
          rw [c4, cond_true, dV_e rfl] at hQ
          exact hQ
        | false =>
          rw [c4, cond_false] at hQ
          cases c5 : decide (wt > to) with
          | true =>
            rw [c5, cond_true, dV_e rfl] at hQ
            exact hQ
          | false =>
            rw [c5, cond_false] at hQ
            refine need_mk h5 (need_mk (okScs_le h9) (need_mk (by rw [h7, h8, h3, p0, h5, okScs_sc h9]; rfl) ?_))
            cases c6 : (ccE wf wt != 0) with
            | true =>
              rw [dV_e (ne_t c6)] at hQ
              exact hQ
            | false =>
              rw [ne_f c6] at hQ
              exact hQ
theorem dl_fn {id0 sub0 iss0 par0 id sub : ByteArray} {aud psc scs : Value} {fr to wf wt : Int} (h1 : inKey id0 = true) (h2 : inKey sub0 = true) (h3 : inKey iss0 = true) (h4 : okPar par0 = true) (h5 : okAud aud = true) (h6 : okSc psc = true) (h7 : inKey id = true) (h8 : inKey sub = true) (h9 : okScs scs = true) :
    FnOK 0 Tryz.prog 13 ⟨[.agg ⟨[.string id0, .string sub0, .string iss0, .string par0, aud, psc, .int .i64 fr, .int .i64 to]⟩, .string id, .string sub, scs, .agg ⟨[.int .i64 wf, .int .i64 wt]⟩]⟩ h0 (fun v _ => v = dV (dE id0 id psc scs fr to wf wt) id sub iss0 id0 aud (leV scs) wf wt) := by
  have hT := dlT_ok (Q := fun v => v = dV (dE id0 id psc scs fr to wf wt) id sub iss0 id0 aud (leV scs) wf wt) h1 h2 h3 h4 h5 h6 h7 h8 h9 rfl
  have k5 := h5
  have k6 := h6
  have k9 := h9
  unfold okAud at k5
  unfold okSc at k6
  unfold okScs at k9
  split at k5
  · split at k6
    · split at k9
      · exact FnOK.ftree SDl_ok mixed Tryz.func13 someDL (dlNNN id0 sub0 iss0 par0 id sub [] [] [] fr to wf wt _) hT
      · exact FnOK.ftree SDl_ok mixed Tryz.func13 someDL (dlNNS id0 sub0 iss0 par0 id sub [] [] _ fr to wf wt _) hT
      · cases k9
    · split at k9
      · exact FnOK.ftree SDl_ok mixed Tryz.func13 someDL (dlNPN id0 sub0 iss0 par0 id sub [] _ [] fr to wf wt _) hT
      · exact FnOK.ftree SDl_ok mixed Tryz.func13 someDL (dlNPS id0 sub0 iss0 par0 id sub [] _ _ fr to wf wt _) hT
      · cases k9
    · cases k6
  · split at k6
    · split at k9
      · exact FnOK.ftree SDl_ok mixed Tryz.func13 someDL (dlANN id0 sub0 iss0 par0 id sub _ [] [] fr to wf wt _) hT
      · exact FnOK.ftree SDl_ok mixed Tryz.func13 someDL (dlANS id0 sub0 iss0 par0 id sub _ [] _ fr to wf wt _) hT
      · cases k9
    · split at k9
      · exact FnOK.ftree SDl_ok mixed Tryz.func13 someDL (dlAPN id0 sub0 iss0 par0 id sub _ _ [] fr to wf wt _) hT
      · exact FnOK.ftree SDl_ok mixed Tryz.func13 someDL (dlAPS id0 sub0 iss0 par0 id sub _ _ _ fr to wf wt _) hT
      · cases k9
    · cases k6
  · cases k5
noncomputable def spDl (f : FuncId) (args : Array Value) (h : AH) : Option (Bool × Value × AH) :=
  cond (Nat.beq f 13) (match args with
    | ⟨[.agg ⟨[.string id0, .string sub0, .string iss0, .string par0, aud, psc, .int .i64 fr, .int .i64 to]⟩, .string id, .string sub, scs, .agg ⟨[.int .i64 wf, .int .i64 wt]⟩]⟩ =>
      some (inKey id0 && inKey sub0 && inKey iss0 && okPar par0 && okAud aud && okSc psc && inKey id && inKey sub && okScs scs,
        .tuple ⟨[.agg ⟨[.string (cond (dE id0 id psc scs fr to wf wt == 0) id ⟨#[]⟩), .string (cond (dE id0 id psc scs fr to wf wt == 0) sub ⟨#[]⟩), .string (cond (dE id0 id psc scs fr to wf wt == 0) iss0 ⟨#[]⟩), .string (cond (dE id0 id psc scs fr to wf wt == 0) id0 ⟨#[]⟩),
          cond (dE id0 id psc scs fr to wf wt == 0) aud (.slice none 0 0), cond (dE id0 id psc scs fr to wf wt == 0) (leV scs) (.slice none 0 0), .int .i64 (cond (dE id0 id psc scs fr to wf wt == 0) wf 0), .int .i64 (cond (dE id0 id psc scs fr to wf wt == 0) wt 0)]⟩, .int .i64 (dE id0 id psc scs fr to wf wt)]⟩, h)
    | _ => none) none
theorem spDl_ok : SpOK spDl := by
  intro f args h v h' hs
  unfold spDl at hs
  obtain ⟨hf, hs2⟩ := cond_some hs
  clear hs
  have := Nat.eq_of_beq_eq_true hf
  subst this
  split at hs2
  · injection hs2 with hs
    injection hs with hb hs
    injection hs with hv hh
    subst hv hh
    simp only [Bool.and_eq_true] at hb
    obtain ⟨⟨⟨⟨⟨⟨⟨⟨b1, b2⟩, b3⟩, b4⟩, b5⟩, b6⟩, b7⟩, b8⟩, b9⟩ := hb
    refine ⟨FnOK.pure (dl_fn b1 b2 b3 b4 b5 b6 b7 b8 b9) ?_ ?_ h, Nat.le_refl _⟩
    · have e1 := okAud_p1 b5
      have e2 := okSc_p1 b6
      have e3 := okScs_p1 b9
      have e4 := p2_of e3
      simp only [List.all_cons, List.all_nil, e4]
      simp only [p2, List.all_cons, List.all_nil, e1, e2]
      rfl
    · have e1 := okAud_p1 b5
      have e2 := okSc_p1 (okScs_sc b9)
      unfold dV cV
      cases (dE _ _ _ _ _ _ _ _ == 0) with
      | true =>
        simp only [p3, p2, List.all_cons, List.all_nil, cond_true, e1, e2]
        rfl
      | false => rfl
  · cases hs2
noncomputable def SLc : SC := ⟨idn, spOr spReady (spOr spRC (spOr spRW (spOr (spNext []) (spOr spDl (spOr spCoW (spOr spCC (spOr spCaW spEqW))))))), true, true⟩
theorem SLc_ok : SLc.cfg.OK Tryz.prog := (spReady_ok.or (spRC_ok.or (spRW_ok.or ((spNext_ok []).or (spDl_ok.or (spCoW_ok.or (spCC_ok.or (spCaW_ok.or spEqW_ok)))))))).cfg
end Go.Proofs.YtlgoekbfohhplaaGreatDoor
