/-
  Records as lines: lines that are read.
-/
import Derived.Test.YtfhhhfgbedddhaaGreatDoorRcE
namespace Go.Proofs.YtfhhhfgbedddhaaGreatDoor
open Go.Ev Go.RowKit RecLaw

/-! The record of a line; the records of a text -/
open Classical in
noncomputable def okLn (s : ByteArray) : Bool := @decide (∃ r, Rd r ∧ s = bl (line r)) (Classical.propDecidable _)
theorem okLn_iff {s : ByteArray} : okLn s = true ↔ ∃ r, Rd r ∧ s = bl (line r) := by unfold okLn; exact @decide_eq_true_iff _ (Classical.propDecidable _)
open Classical in
noncomputable def lnC (s : ByteArray) : Rc := if h : ∃ r, Rd r ∧ s = bl (line r) then h.choose else rc0
theorem lnC_bl {r : Rc} (h : Rd r) : lnC (bl (line r)) = r := by
  have hx : ∃ q, Rd q ∧ bl (line r) = bl (line q) := ⟨r, h, rfl⟩
  unfold lnC
  rw [dif_pos hx]
  obtain ⟨h1, h2⟩ := hx.choose_spec
  exact (line_inj h h1 (bl_inj h2)).symm
def Tx (L : List Rc) : Prop := L.length ≤ 5 ∧ ∀ r ∈ L, Rd r
open Classical in
noncomputable def okTx (s : ByteArray) : Bool := @decide (∃ L, Tx L ∧ s = bl (text L)) (Classical.propDecidable _)
theorem okTx_iff {s : ByteArray} : okTx s = true ↔ ∃ L, Tx L ∧ s = bl (text L) := by unfold okTx; exact @decide_eq_true_iff _ (Classical.propDecidable _)
open Classical in
noncomputable def txC (s : ByteArray) : List Rc := if h : ∃ L, Tx L ∧ s = bl (text L) then h.choose else []
theorem txC_bl {L : List Rc} (h : Tx L) : txC (bl (text L)) = L := by
  have hx : ∃ M, Tx M ∧ bl (text L) = bl (text M) := ⟨L, h, rfl⟩
  unfold txC
  rw [dif_pos hx]
  obtain ⟨h1, h2⟩ := hx.choose_spec
  exact (text_inj h.2 h1.2 (bl_inj h2)).symm
def lnV (r : Rc) : Value := strV (line r)
noncomputable def lsV (s : ByteArray) : List Value := ((txC s).map line ++ [[]]).map strV
noncomputable def spGl (f : FuncId) (args : Array Value) (h : AH) : Option (Bool × Value × AH) :=
  cond (Nat.beq f 57) (match args with
    | ⟨[.string s, .string c, .int .i64 a, .int .i64 b]⟩ => some (okTx s && (isB c 10 && decide (a = 0) && decide (b = -1)), fz ⟨lsV s⟩, h)
    | _ => none) none
theorem spGl_ok : SpOK spGl := by
  intro f args h v h' hs
  unfold spGl at hs
  obtain ⟨hf, hs2⟩ := cond_some hs
  clear hs
  have := Nat.eq_of_beq_eq_true hf
  subst this
  split at hs2
  · injection hs2 with hs
    injection hs with hb hs
    injection hs with hv hh
    subst hv hh
    rename_i s c a b
    simp only [Bool.and_eq_true, decide_eq_true_eq] at hb
    obtain ⟨b1, ⟨b2, rfl⟩, rfl⟩ := hb
    have b2 := isB_eq (b := 10) b2
    subst b2
    obtain ⟨L, hL, rfl⟩ := okTx_iff.1 b1
    have hf := lines_free hL.2
    have hlt := text_len hL.2
    have h5 := hL.1
    have hlen : ((lines L).1 :: (lines L).2).length = L.length + 1 := by rw [lines_map]; simp
    have hlen : (lines L).2.length = L.length := by simpa using hlen
    have := gs_fn (c := 10) hf.1 hf.2 (by omega) (by rw [← text_lines]; omega)
    rw [← text_lines, lines_map] at this
    unfold lsV
    rw [txC_bl hL]
    exact ⟨FnOK.pure this rfl rfl h, Nat.le_refl _⟩
  · cases hs2
noncomputable def SL1 : SC := ⟨idn, spGl, true, true⟩
theorem SL1_ok : SL1.cfg.OK Tryz.prog := spGl_ok.cfg
noncomputable def lN (t : ByteArray) : Int := IntKind.i64.wrap (((Array.mk (lsV t)).size : Int) - 1)
theorem lif (t : ByteArray) (Q : Value → Prop) : ffn Tryz.prog SL1 [] 600 [] Tryz.f21 [.string t] h0 (fun v _ => Q v) =
    bif okTx t && true then bif decide (0 ≤ lN t) && decide (lN t < ((Array.mk (lsV t)).size : Int)) && true then
      (Array.mk (lsV t)).toList.getD (lN t).toNat (Value.tuple { toList := [] }) = .string (toStr ((Array.mk (lsV t)).toList.getD (lN t).toNat (Value.tuple { toList := [] }))) ∧
      bif (toStr ((Array.mk (lsV t)).toList.getD (lN t).toNat (Value.tuple { toList := [] }))).toList == (ByteArray.mk #[]).toList then
        bif decide (0 ≤ lN t) && decide (lN t ≤ ((Array.mk (lsV t)).size : Int)) && (decide (0 = lN t) || ((Array.mk (lsV t)).toList.getD 0 undef).cells.size.beq 1) then
          Q (.tuple ⟨[fz ⟨List.take ((lN t).toNat - 0) (List.drop 0 (Array.mk (lsV t)).toList)⟩, .bool true]⟩) else False
      else Q (.tuple ⟨[fz ⟨lsV t⟩, .bool false]⟩)
    else False else False := by kernel_rfl
theorem someLI : Tryz.f21.body.isSome = true := by kernel_rfl
theorem li_fn {L : List Rc} (hL : Tx L) : FnOK 0 Tryz.prog 21 ⟨[.string (bl (text L))]⟩ h0 (fun v _ => v = .tuple ⟨[fz ⟨L.map lnV⟩, .bool true]⟩) := by
  have h5 := hL.1
  have hls : lsV (bl (text L)) = L.map lnV ++ [strV []] := by
    unfold lsV
    rw [txC_bl hL, List.map_append, List.map_map]
    rfl
  have hsz : ((Array.mk (lsV (bl (text L)))).size : Int) = ((L.length + 1 : Nat) : Int) := by rw [hls]; simp
  have hn : lN (bl (text L)) = (L.length : Int) := by
    unfold lN
    rw [hsz, wrap_id _ (by omega) (by omega)]
    omega
  have hg : (Array.mk (lsV (bl (text L)))).toList.getD L.length (Value.tuple { toList := [] }) = strV [] := by
    rw [hls]
    simp [List.getD]
  have h0 : ((Array.mk (lsV (bl (text L)))).toList.getD 0 undef).cells.size.beq 1 = true := by
    rw [hls]
    cases L with
    | nil => rfl
    | cons r l => rfl
  refine FnOK.ftree SL1_ok mixed Tryz.func21 someLI (lif _ _) ?_
  rw [hn, hsz]
  show bif _ then bif _ then _ = _ ∧ _ else _ else _
  rw [show ((L.length : Int)).toNat = L.length from rfl, hg, h0]
  refine need_mk (by rw [okTx_iff.2 ⟨L, hL, rfl⟩]; rfl) (need_mk (by simp; omega) ⟨rfl, pick_t ?_ (need_mk (by simp; omega) ?_)⟩)
  · show ((bl []).toList == _) = true
    rw [bl_toList]
    decide +kernel
  · rw [hls]
    simp [List.take_left']
noncomputable def spLi (f : FuncId) (args : Array Value) (h : AH) : Option (Bool × Value × AH) :=
  cond (Nat.beq f 21) (match args with
    | ⟨[.string t]⟩ => some (okTx t, .tuple ⟨[fz ⟨(txC t).map lnV⟩, .bool true]⟩, h)
    | _ => none) none
theorem spLi_ok : SpOK spLi := by
  intro f args h v h' hs
  unfold spLi at hs
  obtain ⟨hf, hs2⟩ := cond_some hs
  clear hs
  have := Nat.eq_of_beq_eq_true hf
  subst this
  split at hs2
  · injection hs2 with hs
    injection hs with hb hs
    injection hs with hv hh
    subst hv hh
    rename_i t
    obtain ⟨L, hL, rfl⟩ := okTx_iff.1 hb
    rw [txC_bl hL]
    exact ⟨FnOK.pure (li_fn hL) rfl rfl h, Nat.le_refl _⟩
  · cases hs2

/-! readRecord -/
noncomputable def wdV (s : ByteArray) : List Value := [.string (bl (Lib.decDigits (lnC s).at_.toNat)), .string (bl (dashB (lnC s).rt)), .string (bl (dashB (lnC s).cl)), .string (bl (dashB (lnC s).ac)), .string (bl (dashB (lnC s).ins)), .string (bl (Lib.decDigits (lnC s).st.toNat)), .string (bl (Lib.decDigits (lnC s).fd.toNat))]
noncomputable def spGw (f : FuncId) (args : Array Value) (h : AH) : Option (Bool × Value × AH) :=
  cond (Nat.beq f 57) (match args with
    | ⟨[.string s, .string c, .int .i64 a, .int .i64 b]⟩ => some (okLn s && (isB c 32 && decide (a = 0) && decide (b = -1)), .slice (some ⟨h.next, 0, none⟩) 7 7, h.push (.cells ⟨wdV s⟩ 9 (1, 1)))
    | _ => none) none
theorem spGw_ok : SpOK spGw := by
  intro f args h v h' hs
  unfold spGw at hs
  obtain ⟨hf, hs2⟩ := cond_some hs
  clear hs
  have := Nat.eq_of_beq_eq_true hf
  subst this
  split at hs2
  · rename_i s c a b
    injection hs2 with hs
    injection hs with hb hs
    injection hs with hv hh
    subst hv hh
    simp only [Bool.and_eq_true, decide_eq_true_eq] at hb
    obtain ⟨b1, ⟨b2, rfl⟩, rfl⟩ := hb
    have b2 := isB_eq (b := 32) b2
    subst b2
    obtain ⟨r, hr, rfl⟩ := okLn_iff.1 b1
    have hf := words_free hr.1
    have hl := line_len hr
    have := gs_row (c := 32) (q := Lib.decDigits r.at_.toNat) (r := words r) (dd_free (by decide) _) (fun p hp => (hf p hp).2.1) (by show 6 ≤ 1000; omega) (by show (line r).length ≤ _; omega)
    have e : wdV (bl (line r)) = (Lib.decDigits r.at_.toNat :: words r).map strV := by
      unfold wdV
      rw [lnC_bl hr]
      rfl
    rw [e]
    refine ⟨FnOK.new1 (u := .slice (some ⟨0, 0, none⟩) 7 7) (this.mono ?_) rfl ?_ ?_, Nat.le_succ _⟩
    · rintro v g ⟨rfl, hg⟩
      exact ⟨0, rfl, hg⟩
    · intro x hx
      obtain ⟨d, _, rfl⟩ := List.mem_map.1 hx
      rfl
    · rfl
  · cases hs2
noncomputable def nzT (w : ByteArray) (Q : Value → Prop) (K : Prop) : Prop := bif (ByteArray.mk #[]).toList == w.toList then Q (.tuple ⟨[.agg ⟨[.int .i64 0, .string ⟨#[]⟩, .string ⟨#[]⟩, .string ⟨#[]⟩, .string ⟨#[]⟩, .int .i64 0, .int .i64 0]⟩, .bool false]⟩) else K
noncomputable def dhT (w : ByteArray) (K : ByteArray → Prop) : Prop := bif w.toList == (ByteArray.mk #[45]).toList then K ⟨#[]⟩ else K w
noncomputable def SW1 : SC := ⟨idn, spOr spGw spNu, false, true⟩
theorem SW1_ok : SW1.cfg.OK Tryz.prog := (spGw_ok.or spNu_ok).cfg
set_option maxRecDepth 20000 in
theorem rrf (s : ByteArray) (Q : Value → Prop) : ffn Tryz.prog SW1 [] 600 [] Tryz.f22 [.string s] h0 (fun v _ => Q v) =
    bif okLn s && true then nzT (bl (Lib.decDigits (lnC s).at_.toNat)) Q (nzT (bl (dashB (lnC s).rt)) Q (nzT (bl (dashB (lnC s).cl)) Q (nzT (bl (dashB (lnC s).ac)) Q (nzT (bl (dashB (lnC s).ins)) Q (nzT (bl (Lib.decDigits (lnC s).st.toNat)) Q (nzT (bl (Lib.decDigits (lnC s).fd.toNat)) Q (dhT (bl (dashB (lnC s).rt)) fun a => dhT (bl (dashB (lnC s).cl)) fun b => dhT (bl (dashB (lnC s).ac)) fun c => dhT (bl (dashB (lnC s).ins)) fun d => 
      bif okNu (bl (Lib.decDigits (lnC s).at_.toNat)) && true then bif okNu (bl (Lib.decDigits (lnC s).st.toNat)) && true then bif okNu (bl (Lib.decDigits (lnC s).fd.toNat)) && true then
        Q (.tuple ⟨[.agg ⟨[.int .i64 (nuC (bl (Lib.decDigits (lnC s).at_.toNat))), .string a, .string b, .string c, .string d, .int .i64 (nuC (bl (Lib.decDigits (lnC s).st.toNat))), .int .i64 (nuC (bl (Lib.decDigits (lnC s).fd.toNat)))]⟩, .bool true]⟩) else False else False else False))))))) else False := by kernel_rfl
theorem someRR : Tryz.f22.body.isSome = true := by kernel_rfl
theorem dash_self : ∀ x ∈ allN, fldB x = true → if dashB x = [45] then x = [] else dashB x = x := by decide +kernel
theorem nz_ok {w : List UInt8} (h : w ≠ []) {Q : Value → Prop} {K : Prop} (hK : K) : nzT (bl w) Q K := by
  refine pick_f ?_ hK
  rw [bl_toList, show (ByteArray.mk #[]).toList = [] from by decide +kernel]
  exact beq_eq_false_iff_ne.2 (Ne.symm h)
theorem dh_ok {x : List UInt8} (hx : x ∈ allN) (hf : fldB x = true) {K : ByteArray → Prop} (hK : K (bl x)) : dhT (bl (dashB x)) K := by
  have := dash_self x hx hf
  unfold dhT
  rw [bl_toList, show (ByteArray.mk #[45]).toList = [45] from by decide +kernel]
  by_cases q : dashB x = [45]
  · rw [if_pos q] at this
    rw [this] at hK
    exact pick_t (beq_iff_eq.2 q) hK
  · rw [if_neg q] at this
    rw [this] at q ⊢
    exact pick_f (beq_eq_false_iff_ne.2 q) hK
theorem okNu_ok {n : Int} (h : n ≤ 345686399999) : okNu (bl (Lib.decDigits n.toNat)) = true := okNu_iff.2 ⟨_, rfl, by rw [bl_size]; exact num_len h⟩
theorem nuC_ok {n : Int} (h : 0 ≤ n) : nuC (bl (Lib.decDigits n.toNat)) = n := by rw [nuC_bl]; omega
set_option maxRecDepth 20000 in
theorem rr_fn {r : Rc} (hr : Rd r) : FnOK 0 Tryz.prog 22 ⟨[.string (bl (line r))]⟩ h0 (fun v _ => v = .tuple ⟨[.agg ⟨rcC r⟩, .bool true]⟩) := by
  have hl := lnC_bl hr
  have hok : okLn (bl (line r)) = true := okLn_iff.2 ⟨r, hr, rfl⟩
  obtain ⟨⟨n1, n2, n3, n4⟩, a1, a2, a3, a4, a5, a6, a7⟩ := hr
  simp only [flds, Bool.and_eq_true] at a3
  have s : ∀ x ∈ allN, dashB x ≠ [] := fun x hx => (dash_free x hx).2.2.1
  refine FnOK.ftree SW1_ok mixed Tryz.func22 someRR (rrf _ (fun v => v = .tuple ⟨[.agg ⟨rcC r⟩, .bool true]⟩)) ?_
  rw [hl, hok]
  refine need_mk rfl (nz_ok (dd_ne _) (nz_ok (s _ n1) (nz_ok (s _ n2) (nz_ok (s _ n3) (nz_ok (s _ n4) (nz_ok (dd_ne _) (nz_ok (dd_ne _) ?_)))))))
  refine dh_ok n1 a3.1.1.1 (dh_ok n2 a3.1.1.2 (dh_ok n3 a3.1.2 (dh_ok n4 a3.2 ?_)))
  rw [okNu_ok (show r.at_ ≤ _ by omega), okNu_ok (show r.st ≤ _ by omega), okNu_ok (show r.fd ≤ _ by omega), nuC_ok a1, nuC_ok (show 0 ≤ r.st by omega), nuC_ok a6]
  exact need_mk rfl (need_mk rfl (need_mk rfl rfl))
noncomputable def spRr (f : FuncId) (args : Array Value) (h : AH) : Option (Bool × Value × AH) :=
  cond (Nat.beq f 22) (match args with
    | ⟨[.string s]⟩ => some (okLn s, .tuple ⟨[.agg ⟨rcC (lnC s)⟩, .bool true]⟩, h)
    | _ => none) none
theorem spRr_ok : SpOK spRr := by
  intro f args h v h' hs
  unfold spRr at hs
  obtain ⟨hf, hs2⟩ := cond_some hs
  clear hs
  have := Nat.eq_of_beq_eq_true hf
  subst this
  split at hs2
  · injection hs2 with hs
    injection hs with hb hs
    injection hs with hv hh
    subst hv hh
    rename_i s
    obtain ⟨r, hr, rfl⟩ := okLn_iff.1 hb
    rw [lnC_bl hr]
    exact ⟨FnOK.pure (rr_fn hr) rfl rfl h, Nat.le_refl _⟩
  · cases hs2

/-! Read -/
noncomputable def SR1 : SC := ⟨idn, spOr spRr (spOr spLi spCk), false, true⟩
theorem SR1_ok : SR1.cfg.OK Tryz.prog := (spRr_ok.or (spLi_ok.or spCk_ok)).cfg
def nilV : Value := .slice none 0 0
def rv (L : List Rc) (out : Value) (i : Int) : List Value := [fz ⟨L.map lnV⟩, .bool true, fz ⟨L.map lnV⟩, .int .i64 (L.length : Int), .int .i64 i, out]
def gR (cs : List Value) : AH := ⟨1, 1, [(0, .cells ⟨cs⟩ 36 (0, 0))]⟩
noncomputable def lC (r : Rc) : List Value := rcC (lnC (bl (line r)))
set_option maxRecDepth 20000 in
theorem rdN (B : List Value → AH → Prop) (Q : AExit → List Value → AH → Prop) : ∀ (L : List Rc) (i : Nat), L.length ≤ 5 → i < L.length → once 0 Tryz.prog SR1 [] noHooks 600 58 [5, 6, 21, 22, 23, 7] [0] [2, 3, 4, 7] [0] (oneLoop (codeOf Tryz.f7) 6) (rv L nilV (i : Int)) h0 B Q =
    bif okLn (bl (line (L.getD i rc0))) then NoNames (.cells ⟨lC (L.getD i rc0)⟩ 36 (0, 0)) ∧ B (rv L (.slice (some ⟨0, 0, none⟩) 1 1) ((i + 1 : Nat) : Int)) (gR (lC (L.getD i rc0))) else False
  | [a], 0, _, _ => by kernel_rfl
  | [a, b], 0, _, _ => by kernel_rfl
  | [a, b], 1, _, _ => by kernel_rfl
  | [a, b, c], 0, _, _ => by kernel_rfl
  | [a, b, c], 1, _, _ => by kernel_rfl
  | [a, b, c], 2, _, _ => by kernel_rfl
  | [a, b, c, d], 0, _, _ => by kernel_rfl
  | [a, b, c, d], 1, _, _ => by kernel_rfl
  | [a, b, c, d], 2, _, _ => by kernel_rfl
  | [a, b, c, d], 3, _, _ => by kernel_rfl
  | [a, b, c, d, e], 0, _, _ => by kernel_rfl
  | [a, b, c, d, e], 1, _, _ => by kernel_rfl
  | [a, b, c, d, e], 2, _, _ => by kernel_rfl
  | [a, b, c, d, e], 3, _, _ => by kernel_rfl
  | [a, b, c, d, e], 4, _, _ => by kernel_rfl
  | _ :: _ :: _ :: _ :: _ :: _ :: _, _, h, _ => absurd h (by simp)
  | [], _, _, h => absurd h (by simp)
  | [_], i + 1, _, h => absurd h (by simp)
  | [_, _], i + 2, _, h => absurd h (by simp)
  | [_, _, _], i + 3, _, h => absurd h (by simp)
  | [_, _, _, _], i + 4, _, h => absurd h (by simp)
  | [_, _, _, _, _], i + 5, _, h => absurd h (by simp)
set_option maxRecDepth 20000 in
theorem rdB (cs : List Value) (k : Nat) (B : List Value → AH → Prop) (Q : AExit → List Value → AH → Prop) : ∀ (L : List Rc) (i : Nat), L.length ≤ 5 → i < L.length → once 0 Tryz.prog SR1 [] noHooks 600 58 [5, 6, 21, 22, 23, 7] [0] [2, 3, 4, 7] [0] (oneLoop (codeOf Tryz.f7) 6) (rv L (.slice (some ⟨0, 0, none⟩) k k) (i : Int)) (gR cs) B Q =
    bif okLn (bl (line (L.getD i rc0))) then bif (k + 1).ble k then False else bif (k + 1).ble 9223372036854775807 && ((k + 1) * 88).ble 140737488355328 then bif (0 + k * 7).ble (Array.mk cs).size && true && true then
      NoNames (.cells ⟨List.take (k * 7) (List.drop 0 (Array.mk cs).toList) ++ lC (L.getD i rc0)⟩ 36 (0, 0)) ∧ B (rv L (.slice (some ⟨0, 0, none⟩) (k + 1) (k + 1)) ((i + 1 : Nat) : Int)) (gR (List.take (k * 7) (List.drop 0 (Array.mk cs).toList) ++ lC (L.getD i rc0))) else False else False else False
  | [a], 0, _, _ => by kernel_rfl
  | [a, b], 0, _, _ => by kernel_rfl
  | [a, b], 1, _, _ => by kernel_rfl
  | [a, b, c], 0, _, _ => by kernel_rfl
  | [a, b, c], 1, _, _ => by kernel_rfl
  | [a, b, c], 2, _, _ => by kernel_rfl
  | [a, b, c, d], 0, _, _ => by kernel_rfl
  | [a, b, c, d], 1, _, _ => by kernel_rfl
  | [a, b, c, d], 2, _, _ => by kernel_rfl
  | [a, b, c, d], 3, _, _ => by kernel_rfl
  | [a, b, c, d, e], 0, _, _ => by kernel_rfl
  | [a, b, c, d, e], 1, _, _ => by kernel_rfl
  | [a, b, c, d, e], 2, _, _ => by kernel_rfl
  | [a, b, c, d, e], 3, _, _ => by kernel_rfl
  | [a, b, c, d, e], 4, _, _ => by kernel_rfl
  | _ :: _ :: _ :: _ :: _ :: _ :: _, _, h, _ => absurd h (by simp)
  | [], _, _, h => absurd h (by simp)
  | [_], i + 1, _, h => absurd h (by simp)
  | [_, _], i + 2, _, h => absurd h (by simp)
  | [_, _, _], i + 3, _, h => absurd h (by simp)
  | [_, _, _, _], i + 4, _, h => absurd h (by simp)
  | [_, _, _, _, _], i + 5, _, h => absurd h (by simp)
theorem rdEN (B : List Value → AH → Prop) (Q : AExit → List Value → AH → Prop) : ∀ L : List Rc, L.length ≤ 5 → once 0 Tryz.prog SR1 [] noHooks 600 58 [5, 6, 21, 22, 23, 7] [0] [2, 3, 4, 7] [0] (oneLoop (codeOf Tryz.f7) 6) (rv L nilV (L.length : Int)) h0 B Q = Q (.exit 0) [anyV, anyV, anyV, nilV] h0
  | [], _ => by kernel_rfl
  | [a], _ => by kernel_rfl
  | [a, b], _ => by kernel_rfl
  | [a, b, c], _ => by kernel_rfl
  | [a, b, c, d], _ => by kernel_rfl
  | [a, b, c, d, e], _ => by kernel_rfl
  | _ :: _ :: _ :: _ :: _ :: _ :: _, h => absurd h (by simp)
theorem rdEB (cs : List Value) (k : Nat) (B : List Value → AH → Prop) (Q : AExit → List Value → AH → Prop) : ∀ L : List Rc, L.length ≤ 5 → once 0 Tryz.prog SR1 [] noHooks 600 58 [5, 6, 21, 22, 23, 7] [0] [2, 3, 4, 7] [0] (oneLoop (codeOf Tryz.f7) 6) (rv L (.slice (some ⟨0, 0, none⟩) k k) (L.length : Int)) (gR cs) B Q = (NoNames (.cells ⟨cs⟩ 36 (0, 0)) ∧ Q (.exit 0) [anyV, anyV, anyV, .slice (some ⟨0, 0, none⟩) k k] (gR cs))
  | [], _ => by kernel_rfl
  | [a], _ => by kernel_rfl
  | [a, b], _ => by kernel_rfl
  | [a, b, c], _ => by kernel_rfl
  | [a, b, c, d], _ => by kernel_rfl
  | [a, b, c, d, e], _ => by kernel_rfl
  | _ :: _ :: _ :: _ :: _ :: _ :: _, h => absurd h (by simp)
theorem rdfN (t : ByteArray) (C : List Value → AH → Prop) (Q : Value → Prop) :
    tfn Tryz.prog SR1 [] (hook1 6 (hookLS 0 58 [5, 6, 21, 22, 23, 7] [0] [2, 3, 4, 7] (fun vals h K => C vals h ∧ K (.exit 0) [anyV, anyV, anyV, nilV] h0))) 600 [] Tryz.f7 [.string t] h0 (fun v _ => Q v) =
      bif decide ((t.size : Int) > 200000) then Q (.tuple ⟨[nilV, .int .i64 0, .int .i64 2]⟩) else bif okTx t then C [fz ⟨(txC t).map lnV⟩, .bool true, fz ⟨(txC t).map lnV⟩, .int .i64 ((Array.mk ((txC t).map lnV)).size : Int), .int .i64 0, nilV] h0 ∧ Q (.tuple ⟨[nilV, .int .i64 0, .int .i64 0]⟩) else False := by kernel_rfl
theorem rdfB (t : ByteArray) (cs : List Value) (k : Nat) (C : List Value → AH → Prop) (Q : Value → Prop) :
    tfn Tryz.prog SR1 [] (hook1 6 (thenLS (hookLS 0 58 [5, 6, 21, 22, 23, 7] [0] [2, 3, 4, 7] (fun vals h K => C vals h ∧ K (.exit 0) [anyV, anyV, anyV, .slice (some ⟨0, 0, none⟩) k k] (gR cs))) (freezeG 58 true 7 [7]))) 600 [] Tryz.f7 [.string t] h0 (fun v _ => Q v) =
      bif decide ((t.size : Int) > 200000) then Q (.tuple ⟨[nilV, .int .i64 0, .int .i64 2]⟩) else bif okTx t then C [fz ⟨(txC t).map lnV⟩, .bool true, fz ⟨(txC t).map lnV⟩, .int .i64 ((Array.mk ((txC t).map lnV)).size : Int), .int .i64 0, nilV] h0 ∧
        bif ((Nat.beq k k && Nat.beq k k) && true) && cs.all p1 && k.ble k && (k * 7).ble cs.length && true then bif okV (chunk true 7 k cs) then bif ckC (chunk true 7 k cs) != 0 then Q (.tuple ⟨[nilV, .int .i64 0, .int .i64 (ckC (chunk true 7 k cs))]⟩) else Q (.tuple ⟨[fz ⟨chunk true 7 k cs⟩, .int .i64 0, .int .i64 0]⟩) else False else False
      else False := by kernel_rfl
theorem chunk_rc : ∀ L : List Rc, chunk true 7 L.length (L.flatMap rcC) = L.map rcV
  | [] => rfl
  | t :: l => by
    have := chunk_rc l
    simp only [List.length_cons, List.flatMap_cons, List.map_cons, chunk]
    rw [show (rcC t ++ l.flatMap rcC).drop 7 = l.flatMap rcC from rfl, this]
    rfl
theorem rc_len : ∀ L : List Rc, (L.flatMap rcC).length = L.length * 7
  | [] => rfl
  | t :: l => by
    rw [List.flatMap_cons, List.length_append, rc_len l, List.length_cons]
    show 7 + _ = _
    omega
theorem p1_rc {L : List Rc} : ∀ v ∈ L.flatMap rcC, p1 v = true := by
  intro v hv
  obtain ⟨t, _, h⟩ := List.mem_flatMap.1 hv
  simp only [rcC, List.mem_cons, List.not_mem_nil, or_false] at h
  rcases h with rfl | rfl | rfl | rfl | rfl | rfl | rfl <;> rfl
theorem nnR (L : List Rc) (t : TypeId) (fr : Nat × Nat) : NoNames (.cells ⟨L.flatMap rcC⟩ t fr) := fun v hv => p1_rc v (by simpa using hv)
def outR : List Rc → Value
  | [] => nilV
  | r :: l => .slice (some ⟨0, 0, none⟩) (r :: l).length (r :: l).length
def hpR : List Rc → AH
  | [] => h0
  | r :: l => gR ((r :: l).flatMap rcC)
theorem big88 {k : Nat} (h : k ≤ 1000) : ((k + 1).ble 9223372036854775807 && ((k + 1) * 88).ble 140737488355328) = true := by
  rw [Bool.and_eq_true, Nat.ble_eq, Nat.ble_eq]; omega
theorem len7 (L : List Rc) : ((0 + L.length * 7).ble (Array.mk (L.flatMap rcC)).size && true && true) = true := by
  have : (0 + L.length * 7).ble (Array.mk (L.flatMap rcC)).size = true := by
    rw [Nat.ble_eq]
    show 0 + L.length * 7 ≤ (L.flatMap rcC).length
    rw [rc_len]; omega
  rw [this]; rfl
theorem take7 (L : List Rc) : List.take (L.length * 7) (List.drop 0 (Array.mk (L.flatMap rcC)).toList) = L.flatMap rcC := by
  rw [List.drop_zero, ← rc_len]
  exact List.take_length
theorem lC_rd {r : Rc} (h : Rd r) : lC r = rcC r := by unfold lC; rw [lnC_bl h]
theorem rd_it (n : Nat) {vals : List Value} {h : AH} {K : AExit → List Value → AH → Prop} (hx : once 0 Tryz.prog SR1 [] noHooks 600 58 [5, 6, 21, 22, 23, 7] [0] [2, 3, 4, 7] [0] (oneLoop (codeOf Tryz.f7) 6) vals h (fun v g => iter 0 Tryz.prog SR1 [] noHooks 600 58 [5, 6, 21, 22, 23, 7] [0] [2, 3, 4, 7] [0] (oneLoop (codeOf Tryz.f7) 6) n v g K) K) : iter 0 Tryz.prog SR1 [] noHooks 600 58 [5, 6, 21, 22, 23, 7] [0] [2, 3, 4, 7] [0] (oneLoop (codeOf Tryz.f7) 6) (n + 1) vals h K := hx
set_option maxRecDepth 20000 in
theorem rd_loop {L : List Rc} (hL : Tx L) (K : AExit → List Value → AH → Prop) : ∀ (r i : Nat) (O : List Rc), i + r = L.length → O.length = i → K (.exit 0) [anyV, anyV, anyV, outR (O ++ L.drop i)] (hpR (O ++ L.drop i)) → iter 0 Tryz.prog SR1 [] noHooks 600 58 [5, 6, 21, 22, 23, 7] [0] [2, 3, 4, 7] [0] (oneLoop (codeOf Tryz.f7) 6) (r + 1) (rv L (outR O) (i : Int)) (hpR O) K
  | 0, i, O, h1, h2, hK => by
    have : i = L.length := by omega
    subst this
    rw [List.drop_length, List.append_nil] at hK
    refine rd_it 0 ?_
    cases O with
    | nil => exact (rdEN _ K L hL.1).mpr hK
    | cons q o => exact (rdEB _ _ _ K L hL.1).mpr ⟨nnR (q :: o) _ _, hK⟩
  | r + 1, i, O, h1, h2, hK => by
    have hi : i < L.length := by omega
    have h5 := hL.1
    have hr : Rd (L.getD i rc0) := hL.2 _ (get_mem hi)
    have hd : L.drop i = L.getD i rc0 :: L.drop (i + 1) := by
      rw [List.drop_eq_getElem_cons hi]
      simp [List.getD, hi]
    rw [hd, List.append_cons] at hK
    have ih := rd_loop hL K r (i + 1) (O ++ [L.getD i rc0]) (by omega) (by simp; omega) hK
    have hok : okLn (bl (line (L.getD i rc0))) = true := okLn_iff.2 ⟨_, hr, rfl⟩
    refine rd_it (r + 1) ?_
    cases O with
    | nil =>
      refine (rdN _ K L i hL.1 hi).mpr (need_mk hok ?_)
      rw [lC_rd hr]
      have hn := nnR [L.getD i rc0] 36 (0, 0)
      have e : ([L.getD i rc0] : List Rc).flatMap rcC = rcC (L.getD i rc0) := by simp
      rw [e] at hn
      refine ⟨hn, ?_⟩
      have ih : iter 0 Tryz.prog SR1 [] noHooks 600 58 [5, 6, 21, 22, 23, 7] [0] [2, 3, 4, 7] [0] (oneLoop (codeOf Tryz.f7) 6) (r + 1) (rv L (.slice (some ⟨0, 0, none⟩) 1 1) ((i + 1 : Nat) : Int)) (gR (([L.getD i rc0] : List Rc).flatMap rcC)) K := ih
      rw [e] at ih
      exact ih
    | cons q o =>
      refine (rdB _ _ _ K L i hL.1 hi).mpr (need_mk hok (pick_f (ble_ss _) (need_mk (big88 (k := (q :: o).length) (by omega)) (need_mk (len7 (q :: o)) ?_))))
      rw [lC_rd hr, take7]
      have e : (q :: o).flatMap rcC ++ rcC (L.getD i rc0) = ((q :: o) ++ [L.getD i rc0]).flatMap rcC := by simp
      rw [e]
      refine ⟨nnR _ _ _, ?_⟩
      have e3 : outR ((q :: o) ++ [L.getD i rc0]) = .slice (some ⟨0, 0, none⟩) ((q :: o).length + 1) ((q :: o).length + 1) := by
        show Value.slice (some ⟨0, 0, none⟩) ((q :: o) ++ [L.getD i rc0]).length ((q :: o) ++ [L.getD i rc0]).length = _
        rw [List.length_append]; rfl
      rw [e3] at ih
      exact ih
theorem oneRD : (loopAt (codeOf Tryz.f7) 6).length = 1 := by kernel_rfl
theorem someRD : Tryz.f7.body.isSome = true := by kernel_rfl
theorem Tx_Ln {L : List Rc} (h : Tx L) : Ln L := ⟨h.1, fun r hr => (h.2 r hr).1⟩
theorem rd_fn {L : List Rc} (hL : Tx L) (ho : okL L) : FnOK 0 Tryz.prog 7 ⟨[.string (bl (text L))]⟩ h0 (fun v _ => v = .tuple ⟨[fz ⟨L.map rcV⟩, .int .i64 0, .int .i64 0]⟩) := by
  have hlt := text_len hL.2
  have h5 := hL.1
  have hok : okTx (bl (text L)) = true := okTx_iff.2 ⟨L, hL, rfl⟩
  have hz : ((Array.mk (L.map lnV)).size : Int) = (L.length : Int) := by simp
  have hbig : decide (((bl (text L)).size : Int) > 200000) = false := decide_eq_false (by rw [bl_size]; omega)
  have main := fun K => rd_loop hL K L.length 0 [] (by omega) rfl
  have hck : ckC (L.map rcV) = 0 := ((ckC_ok (okV_map (Tx_Ln hL))).2 L (Tx_Ln hL) rfl).2 ho
  cases hc : L with
  | nil =>
    rw [hc] at main
    have hsp : LSpec 0 Tryz.prog 58 (oneLoop (codeOf Tryz.f7) 6) (hookLS 0 58 [5, 6, 21, 22, 23, 7] [0] [2, 3, 4, 7] (fun vals h K => (vals = rv [] nilV 0 ∧ h = h0) ∧ K (.exit 0) [anyV, anyV, anyV, nilV] h0)) := by
      refine hook_ok (G := []) (L := noHooks) (f := 600) (sameX := [0]) SR1_ok mixed (by decide) (loops_none _ _ _ _) ?_
      rintro vals h K ⟨⟨rfl, rfl⟩, hK⟩
      exact ⟨_, main K hK⟩
    rw [hc] at hok hz hbig hL
    have : FnOK 0 Tryz.prog 7 ⟨[.string (bl (text []))]⟩ h0 (fun v _ => v = .tuple ⟨[nilV, .int .i64 0, .int .i64 0]⟩) := by
      refine FnOK.ttree SR1_ok mixed Tryz.func7 someRD (loops_one oneRD hsp) (rdfN _ _ (fun v => v = .tuple ⟨[nilV, .int .i64 0, .int .i64 0]⟩)) ?_
      rw [txC_bl hL]
      exact pick_f hbig (need_mk hok ⟨⟨by rw [hz]; rfl, rfl⟩, rfl⟩)
    refine FnOK.weakT (this.mono ?_)
    rintro v g rfl
    refine ⟨_, #[fz #[], .int .i64 0, .int .i64 0], g, rfl, Weak.nil rfl ?_, rfl⟩
    intro i
    match i with
    | 0 => exact .inr ⟨0, rfl, rfl⟩
    | i + 1 => exact .inl (by simp)
  | cons r l =>
    rw [← hc]
    have hsl : outR L = .slice (some ⟨0, 0, none⟩) L.length L.length := by rw [hc]; rfl
    have hhp : hpR L = gR (L.flatMap rcC) := by rw [hc]; rfl
    have hsp : LSpec 0 Tryz.prog 58 (oneLoop (codeOf Tryz.f7) 6) (thenLS (hookLS 0 58 [5, 6, 21, 22, 23, 7] [0] [2, 3, 4, 7] (fun vals h K => (vals = rv L nilV 0 ∧ h = h0) ∧ K (.exit 0) [anyV, anyV, anyV, .slice (some ⟨0, 0, none⟩) L.length L.length] (gR (L.flatMap rcC)))) (freezeG 58 true 7 [7])) := by
      refine thenLS_ok (hook_ok (G := []) (L := noHooks) (f := 600) (sameX := [0]) SR1_ok mixed (by decide) (loops_none _ _ _ _) ?_) (freezeG_ok _ _ _ _ _ _)
      rintro vals h K ⟨⟨rfl, rfl⟩, hK⟩
      exact ⟨_, main K (by rw [List.nil_append, List.drop_zero, hsl, hhp]; exact hK)⟩
    refine FnOK.ttree SR1_ok mixed Tryz.func7 someRD (loops_one oneRD hsp) (rdfB _ _ _ _ (fun v => v = .tuple ⟨[fz ⟨L.map rcV⟩, .int .i64 0, .int .i64 0]⟩)) ?_
    rw [txC_bl hL, chunk_rc, hck]
    refine pick_f hbig (need_mk hok ⟨⟨by rw [hz]; rfl, rfl⟩, need_mk ?_ (need_mk (okV_map (Tx_Ln hL)) rfl)⟩)
    rw [Nat.beq_refl, Nat.ble_eq_true_of_le (Nat.le_refl _), rc_len, Nat.ble_eq_true_of_le (Nat.le_refl _), List.all_eq_true.2 (fun v hv => p1_rc v hv)]
    rfl
open Classical in
noncomputable def okRt (s : ByteArray) : Bool := @decide (∃ L, Tx L ∧ okL L ∧ s = bl (text L)) (Classical.propDecidable _)
theorem okRt_iff {s : ByteArray} : okRt s = true ↔ ∃ L, Tx L ∧ okL L ∧ s = bl (text L) := by unfold okRt; exact @decide_eq_true_iff _ (Classical.propDecidable _)
noncomputable def spRd (f : FuncId) (args : Array Value) (h : AH) : Option (Bool × Value × AH) :=
  cond (Nat.beq f 7) (match args with
    | ⟨[.string t]⟩ => some (okRt t, .tuple ⟨[fz ⟨(txC t).map rcV⟩, .int .i64 0, .int .i64 0]⟩, h)
    | _ => none) none
theorem spRd_ok : SpOK spRd := by
  intro f args h v h' hs
  unfold spRd at hs
  obtain ⟨hf, hs2⟩ := cond_some hs
  clear hs
  have := Nat.eq_of_beq_eq_true hf
  subst this
  split at hs2
  · injection hs2 with hs
    injection hs with hb hs
    injection hs with hv hh
    subst hv hh
    rename_i t
    obtain ⟨L, hL, ho, rfl⟩ := okRt_iff.1 hb
    rw [txC_bl hL]
    exact ⟨FnOK.pure (rd_fn hL ho) rfl rfl h, Nat.le_refl _⟩
  · cases hs2
end Go.Proofs.YtfhhhfgbedddhaaGreatDoor
