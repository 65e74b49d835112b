/-
  Paths: the law.
-/
import Derived.Test.YtfjfdemnnhfmoaaGreatDoorPsG
import Derived.Test.YtfjfdemnnhfmoaaGreatDoorPsH
namespace Go.Proofs.YtfjfdemnnhfmoaaGreatDoor
open Go.Ev Go.RowKit RecLaw PathLaw

def raS : ByteArray := bl (Lib.repeatL [97] 64)
noncomputable def spRa (f : FuncId) (args : Array Value) (h : AH) : Option (Bool × Value × AH) :=
  cond (Nat.beq f 20) (match args with
    | ⟨[.string s, .int .i64 n]⟩ => some (s.data.toList == [97] && decide (n = 64), .string raS, h)
    | _ => none) none
theorem spRa_ok : SpOK spRa := by
  intro f args h v h' hs
  unfold spRa at hs
  obtain ⟨hf, hs2⟩ := cond_some hs
  clear hs
  have := Nat.eq_of_beq_eq_true hf
  subst this
  split at hs2
  · rename_i s n
    injection hs2 with hs
    injection hs with hb hs
    injection hs with hv hh
    subst hv hh
    simp only [Bool.and_eq_true, decide_eq_true_eq] at hb
    obtain ⟨b1, rfl⟩ := hb
    have e : s = bl [97] := by rw [← bl_self s, eq_of_beq b1]
    subst e
    exact ⟨flat_call (args := [.string (bl [97]), .int .i64 64]) rfl rfl fun w => Tryz.strings_Repeat (bl [97]) 64 w (by omega) (by rw [bl_size]; decide), Nat.le_refl _⟩
  · cases hs2
/-- Next below 4, told. -/
noncomputable def spT4 (n : Int) (f : FuncId) (args : Array Value) (h : AH) : Option (Bool × Value × AH) :=
  match args with
  | ⟨[p, .int .i64 m]⟩ => cond (decide (m = 4)) (match spNext [] f ⟨[p, .int .i64 m]⟩ h with
    | some (b, .int .i64 v, h') => some (b && decide (v = n), .int .i64 n, h')
    | _ => none) none
  | _ => none
theorem spT4_ok (n : Int) : SpOK (spT4 n) := by
  intro f args h v h' hs
  unfold spT4 at hs
  split at hs
  · rename_i p m
    obtain ⟨_, hs2⟩ := cond_some hs
    split at hs2
    · rename_i b v' h2 hq
      injection hs2 with hs2
      injection hs2 with hb hs3
      injection hs3 with hv hh
      subst hv hh
      simp only [Bool.and_eq_true, decide_eq_true_eq] at hb
      obtain ⟨rfl, rfl⟩ := hb
      exact spNext_ok [] _ _ _ _ _ hq
    · cases hs2
  · cases hs
noncomputable def SLw (n : Int) : SC := ⟨idn, spOr spReady (spOr spPn (spOr spNp (spOr spJp (spOr spSs (spOr spNh (spOr spEq (spOr spRa (spOr (spT4 n) (spNext []))))))))), true, true⟩
theorem SLw_ok (n : Int) : (SLw n).cfg.OK Tryz.prog := (spReady_ok.or (spPn_ok.or (spNp_ok.or (spJp_ok.or (spSs_ok.or (spNh_ok.or (spEq_ok.or (spRa_ok.or ((spT4_ok n).or (spNext_ok [])))))))))).cfg
def woL : List Value := [.string ⟨#[97]⟩, .string ⟨#[98, 32, 99]⟩, .string ⟨#[97, 47, 98]⟩, .string ⟨#[120, 59, 121]⟩, .string ⟨#[195, 169]⟩, .string ⟨#[37, 52, 49]⟩, .string ⟨#[46, 46, 46]⟩]
def hoL : List Value := [.string ⟨#[97, 46, 98]⟩, .string ⟨#[97, 46, 98]⟩, .string ⟨#[65, 46, 66]⟩, .string ⟨#[115, 104, 111, 112, 46, 101, 120, 97, 109, 112, 108, 101]⟩, .string ⟨#[97, 46, 98, 58, 56, 48]⟩, .string ⟨#[97, 46, 98, 58, 52, 52, 51]⟩, .string ⟨#[97, 46, 98, 58, 56, 48, 56, 48]⟩, .string ⟨#[120, 45, 49, 46, 121]⟩, .string ⟨#[49, 46, 50, 46, 51, 46, 52]⟩, .string ⟨#[]⟩, .string ⟨#[97, 46, 46, 98]⟩, .string ⟨#[45, 97, 46, 98]⟩, .string ⟨#[97, 46, 98, 58, 48]⟩, .string ⟨#[97, 46, 98, 58, 48, 56]⟩, .string ⟨#[97, 46, 98, 58, 54, 53, 53, 51, 54]⟩, .string ⟨#[97, 95, 98]⟩, .string ⟨#[97, 46, 98, 58]⟩, .string ⟨#[97, 32, 98]⟩, .string raS]
noncomputable def LP (n : Int) : Hooks := hook1 10 (thenLS (hookLS 0 99 [3, 9, 44, 45] [] [3, 9] (fun vals h K => iter 0 Tryz.prog (SLw n) [] noHooks 3000 99 [3, 9, 44, 45] [] [3, 9] [] (oneLoop (codeOf Tryz.f3) 10) 5 vals h K)) (freezeG 99 false 1 [9]))
noncomputable def npC (s : ByteArray) (K : ByteArray → Int → Prop) : Prop := bif Nat.ble s.data.toList.length 20000 then K (bl (npS s.data.toList)) (npE s.data.toList) else False
noncomputable def lwH (h : ByteArray) (F K : Prop) : Prop :=
  bif inH h then bif nhE h == 0 then bif inH (nhS h) then bif nhE (nhS h) != 0 then F else bif !((nhS h).toList == (nhS (nhS h)).toList) then F else K else False else K else False
noncomputable def lwJ (xs : Array Value) (d : Int) (L : List ByteArray) (F T : Prop) : Prop :=
  bif okW (L.map Value.string) then bif okT (bl (txt ((L.map Value.string).map unS))) then
    dr xs d (rg (nextR xs d 19) 19 19 (lwH (gS hoL (nextR xs d 19)) F (bif okEq ((wordsOf (bl (txt ((L.map Value.string).map unS))).data.toList).map strV) (L.map Value.string) then T else False)))
  else False else False
noncomputable def lwW (xs : Array Value) (F T : Prop) : Nat → Int → List ByteArray → Prop
  | 0, d, L => lwJ xs d L F T
  | n + 1, d, L => dr xs d (rg (nextR xs d 7) 7 7 (lwW xs F T n (d + 1) (L ++ [gS woL (nextR xs d 7)])))
noncomputable def lwR (xs : Array Value) (n : Nat) (d : Int) (F T : Prop) : Prop :=
  bif decide (0 ≤ d) && decide (d ≤ 1000000) && true && true && true && allInts xs && decide (nextR xs d 4 = (n : Int)) then lwW xs F T (n + 1) (d + 1) [] else False
noncomputable def lwT (xs : Array Value) (n : Nat) (F T : Prop) : Prop :=
  bif allInts xs then npC (pnC xs).1 fun a e => bif e == 0 then npC a fun b f => bif f != 0 then F else bif !(a.toList == b.toList) then F else lwR xs n (pnC xs).2 F T else lwR xs n (pnC xs).2 F T else False
set_option maxRecDepth 20000 in
theorem lw0 (xs : Array Value) (Q : Value → Prop) : tfn Tryz.prog (SLw 0) [] (LP 0) 3000 [] Tryz.f3 [fz xs] h0 (fun v _ => Q v) = lwT xs 0 (Q (.bool false)) (Q (.bool true)) := by kernel_rfl
set_option maxRecDepth 20000 in
theorem lw1 (xs : Array Value) (Q : Value → Prop) : tfn Tryz.prog (SLw 1) [] (LP 1) 3000 [] Tryz.f3 [fz xs] h0 (fun v _ => Q v) = lwT xs 1 (Q (.bool false)) (Q (.bool true)) := by kernel_rfl
set_option maxRecDepth 20000 in
theorem lw2 (xs : Array Value) (Q : Value → Prop) : tfn Tryz.prog (SLw 2) [] (LP 2) 3000 [] Tryz.f3 [fz xs] h0 (fun v _ => Q v) = lwT xs 2 (Q (.bool false)) (Q (.bool true)) := by kernel_rfl
set_option maxRecDepth 20000 in
theorem lw3 (xs : Array Value) (Q : Value → Prop) : tfn Tryz.prog (SLw 3) [] (LP 3) 3000 [] Tryz.f3 [fz xs] h0 (fun v _ => Q v) = lwT xs 3 (Q (.bool false)) (Q (.bool true)) := by kernel_rfl
theorem someLW : Tryz.f3.body.isSome = true := by kernel_rfl
theorem one10 : (loopAt (codeOf Tryz.f3) 10).length = 1 := by kernel_rfl
theorem wo_in {r : Int} (h0 : 0 ≤ r) (h1 : r < 7) : (gS woL r).data.toList ∈ wds := by
  have : ∀ n < 7, (gS woL ((n : Nat) : Int)).data.toList ∈ wds := by decide +kernel
  have := this r.toNat (by omega)
  rwa [Int.toNat_of_nonneg h0] at this
theorem ho_in {r : Int} (h0 : 0 ≤ r) (h1 : r < 19) : (gS hoL r).data.toList ∈ hosts := by
  have : ∀ n < 19, (gS hoL ((n : Nat) : Int)).data.toList ∈ hosts := by decide +kernel
  have := this r.toNat (by omega)
  rwa [Int.toNat_of_nonneg h0] at this
theorem npC_mk {l : List UInt8} {K : ByteArray → Int → Prop} (hl : l.length ≤ 20000) (hK : K (bl (npS l)) (npE l)) : npC (bl l) K := by
  unfold npC
  rw [bl_list]
  exact need_mk (Nat.ble_eq_true_of_le hl) hK
theorem lwH_ok {h : ByteArray} (hh : h.data.toList ∈ hosts) {F K : Prop} (hK : K) : lwH h F K := by
  have hi : ∀ {s : ByteArray}, s.data.toList ∈ hosts → inH s = true := fun q => by simpa [inH] using q
  unfold lwH
  refine need_mk (hi hh) ?_
  by_cases q : (nhF h.data.toList).2 = 0
  · obtain ⟨h1, h2⟩ := host_ok _ hh q
    have e1 : (nhS h).data.toList = (nhF h.data.toList).1 := bl_list _
    have e2 : nhE (nhS h) = 0 := by unfold nhE; rw [e1, h2]
    have e3 : nhS (nhS h) = nhS h := by
      show bl (nhF (nhS h).data.toList).1 = _
      rw [e1, h2]; rfl
    refine pick_t (by unfold nhE; rw [q]; rfl) (need_mk (hi (by rw [e1]; exact h1)) (pick_f (by rw [e2]; rfl) (pick_f (by rw [e3, beq_self_eq_true]; rfl) hK)))
  · exact pick_f (beq_eq_false_iff_ne.2 q) hK
theorem lwJ_ok (zs : List Int) {d : Int} (h0 : 0 ≤ d) (h1 : d ≤ 1000) {L : List (List UInt8)} (hL : okL L) {F T : Prop} (hT : T) : lwJ (intsV zs) d (L.map bl) F T := by
  have hb := (nextR_spec zs 19 d h0 (by omega) (by omega) (by omega)).1
  have e : (L.map bl).map Value.string = L.map strV := strV_map L
  have hW : okW (L.map strV) = true := okW_iff.2 ⟨L, hL, rfl⟩
  unfold lwJ
  rw [e, unS_map, bl_list, words_of hL.2.2 hL.1 hL.2.1]
  refine need_mk hW (need_mk (okT_iff.2 ⟨L, hL, rfl⟩) (dr_mk h0 (by omega) (rg_mk h0 (by omega) rfl (by decide) (lwH_ok (ho_in hb.1 hb.2) (need_mk ?_ hT)))))
  unfold okEq
  rw [hW, Bool.and_true]
  exact @decide_eq_true _ (Classical.propDecidable _) rfl
theorem lwW_ok (zs : List Int) {F T : Prop} (hT : T) : ∀ (n : Nat) {d : Int} (_ : 0 ≤ d) (_ : d + n ≤ 1000) {L : List (List UInt8)} (_ : ∀ w ∈ L, w ∈ wds) (_ : L.length + n ≤ 4) (_ : 1 ≤ L.length + n), lwW (intsV zs) F T n d (L.map bl)
  | 0, d, h0, h1, L, h2, h3, h4 => lwJ_ok zs h0 (by omega) ⟨by intro e; subst e; simp at h4, by omega, h2⟩ hT
  | n + 1, d, h0, h1, L, h2, h3, h4 => by
    have hb := (nextR_spec zs 7 d h0 (by omega) (by omega) (by omega)).1
    have hw := wo_in hb.1 hb.2
    refine dr_mk h0 (by omega) (rg_mk h0 (by omega) rfl (by decide) ?_)
    have := lwW_ok zs (F := F) hT n (d := d + 1) (by omega) (by omega) (L := L ++ [(gS woL (nextR (intsV zs) d 7)).data.toList]) (ma h2 (by simpa using hw)) (by simp; omega) (by simp; omega)
    rw [List.map_append, List.map_cons, List.map_nil, bl_self] at this
    exact this
theorem lwR_ok (zs : List Int) {n : Nat} (hn : n < 4) {d : Int} (h0 : 0 ≤ d) (h1 : d ≤ 100) (hr : nextR (intsV zs) d 4 = (n : Int)) {F T : Prop} (hT : T) : lwR (intsV zs) n d F T :=
  need_mk (by rw [allInts_intsV]; simp [hr]; omega) (lwW_ok zs hT (n + 1) (by omega) (by omega) (L := []) (fun _ h => by cases h) (by simp; omega) (by simp))
theorem lwT_ok (zs : List Int) {n : Nat} (hn : n < 4) (hr : nextR (intsV zs) (pnC (intsV zs)).2 4 = (n : Int)) {F T : Prop} (hT : T) : lwT (intsV zs) n F T := by
  obtain ⟨p1, p2, p3, _⟩ := pnC_ok zs
  have hR := lwR_ok zs hn p2 (by omega) hr (F := F) hT
  have e : (pnC (intsV zs)).1 = bl (pnC (intsV zs)).1.data.toList := (bl_self _).symm
  have hl : (pnC (intsV zs)).1.data.toList.length ≤ 10000 := by
    have := bl_size (pnC (intsV zs)).1.data.toList
    rw [bl_self] at this
    omega
  generalize hg : (pnC (intsV zs)).1.data.toList = l at e hl
  unfold lwT
  rw [e]
  refine need_mk (allInts_intsV zs) (npC_mk (by omega) ?_)
  by_cases q : npE l = 0
  · refine pick_t (by rw [q]; rfl) ?_
    obtain ⟨h1, h2⟩ : okP l = true ∧ (np l).isSome = true := by
      unfold npE at q
      split at q
      · rename_i h1
        split at q
        · rename_i h2; exact ⟨h1, h2⟩
        · cases q
      · cases q
    obtain ⟨x, hx⟩ := Option.isSome_iff_exists.1 h2
    have hN := np_nrm h1 hx
    have eS : npS l = x := by unfold npS; rw [if_pos h1, hx]; rfl
    obtain ⟨_, _, _, _, hk⟩ := hN
    have eX := nrm_np (np_nrm h1 hx)
    have eE2 : npE x = 0 := by unfold npE; rw [if_pos hk, eX]; rfl
    have eS2 : npS x = x := by unfold npS; rw [if_pos hk, eX]; rfl
    rw [eS]
    refine npC_mk (by have := (okP_iff.1 hk).1; omega) (pick_f (by rw [eE2]; rfl) (pick_f (by rw [eS2, beq_self_eq_true]; rfl) hR))
  · exact pick_f (beq_eq_false_iff_ne.2 q) hR
theorem gh_ok (n : Int) : LoopsOK 0 Tryz.prog Tryz.f3.ntmps (LP n) (codeOf Tryz.f3) := loops_one one10 (thenLS_ok (hook_ok (G := []) (L := noHooks) (f := 3000) (sameX := []) (SLw_ok n) mixed (by decide) (loops_none _ _ _ _) fun _ _ _ hi => ⟨5, hi⟩) (freezeG_ok 0 Tryz.prog 99 false 1 [9]))
end Go.Proofs.YtfjfdemnnhfmoaaGreatDoor
