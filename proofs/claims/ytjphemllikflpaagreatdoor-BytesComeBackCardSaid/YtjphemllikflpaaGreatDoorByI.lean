/-
  Bytes: heads.
-/
import Derived.Test.YtjphemllikflpaaGreatDoorByE
import Derived.Test.YtjphemllikflpaaGreatDoorByG
namespace Go.Proofs.YtjphemllikflpaaGreatDoor
open Go.Ev Go.RowKit RecLaw PathLaw QueryLaw BytesLaw

noncomputable def SRd : SC := ⟨idn, spOr spIg (spOr spTm (spOr spTk spFq)), true, true⟩
theorem SRd_ok : SRd.cfg.OK Tryz.prog := (spIg_ok.or (spTm_ok.or (spTk_ok.or spFq_ok))).cfg
noncomputable def LRh : Hooks := ghost1 11 (freezeH 2 1 true 2)
def hdZ : Nat × Obj := (0, .cells ⟨[.string ⟨#[]⟩, .slice none 0 0, .int .i64 0]⟩ 82 (0, 0))
def rhH0 (F : ByteArray) (a : Int) : AH := ⟨2, 2, [hdZ, (1, .cells ⟨[.string F, .slice none 0 0, .int .i64 a]⟩ 82 (0, 0))]⟩
def rhH1 (F : ByteArray) (a : Int) (cs : List Value) (k : Nat) : AH := ⟨3, 3, [hdZ, (1, .cells ⟨[.string F, .slice (some ⟨2, 0, none⟩) k k, .int .i64 a]⟩ 82 (0, 0)), (2, .cells ⟨cs⟩ 93 (0, 0))]⟩
def bdH0 (F : ByteArray) (a : Int) : AH := ⟨1, 1, [(0, .cells ⟨[.string F, .slice none 0 0, .int .i64 a]⟩ 82 (0, 0))]⟩
def bdH1 (F : ByteArray) (a : Int) (cs : List Value) (k : Nat) : AH := ⟨2, 2, [(0, .cells ⟨[.string F, .slice (some ⟨1, 0, none⟩) k k, .int .i64 a]⟩ 82 (0, 0)), (1, .cells ⟨cs⟩ 93 (0, 0))]⟩
def fnH (F : ByteArray) (a : Int) (vs : List Value) : AH := ⟨1, 1, [(0, .cells ⟨[.string F, fz ⟨vs⟩, .int .i64 a]⟩ 82 (0, 0))]⟩
noncomputable def ixC (x : ByteArray) : Int := Lib.index x.data.toList [58]
noncomputable def ctC (x : ByteArray) (K : ByteArray → ByteArray → Bool → Prop) : Prop :=
  bif Nat.ble x.size 1000000 && true then bif decide (ixC x ≥ 0) then bif decide (0 ≤ ixC x) && decide (ixC x ≤ (x.size : Int)) then
    bif decide (0 ≤ W (ixC x + 1)) && decide (W (ixC x + 1) ≤ (x.size : Int)) && decide ((x.size : Int) ≤ (x.size : Int)) then K (x.extract 0 (ixC x).toNat) (x.extract (W (ixC x + 1)).toNat x.size) true else False else False
  else K x ⟨#[]⟩ false else False
noncomputable def rhC (s : ByteArray) (a : Int) (bad : Prop) (K : ByteArray → Int → Prop) : Prop :=
  frS s a fun x => ctE x fun l _ has => bif !has then bad else K l (W (a + W ((l.size : Int) + 2)))
noncomputable def rhL (n : Int) (l : ByteArray) (first fin bad : Prop) (good : ByteArray → ByteArray → Prop) : Prop :=
  bif n == 0 then first else bif l.toList == (ByteArray.mk #[]).toList then fin else ctC l fun nm v has => bif Nat.ble v.size 100000 && isB ⟨#[32]⟩ 32 then
    bif !has then bad else bif LE2 nm then bif !tokB nm.data.toList then bad else bif !fldQ (bl (Lib.trimB v.data.toList 32)).data.toList then bad else good nm (bl (Lib.trimB v.data.toList 32)) else False else False
noncomputable def apP (cs : List Value) (k : Nat) (ts : List Value) (X : List Value → Nat → Prop) : Prop :=
  bif (k + 1).ble k then False else bif (k + 1).ble 9223372036854775807 && ((k + 1) * 32).ble 140737488355328 then bif (0 + k * 2).ble (Array.mk cs).size && true && true then X (List.take (k * 2) (List.drop 0 (Array.mk cs).toList) ++ ts) (k + 1) else False else False
abbrev NNR (cs : List Value) : Prop := NoNames (.cells ⟨cs⟩ 93 (0, 0))
def noL : List Value := [.pointer (some ⟨0, 0, none⟩), .bool false]
def okL : List Value := [.pointer (some ⟨0, 0, none⟩), .bool true]
theorem rhr0 (s F : ByteArray) (a : Int) (B : List Value → AH → Prop) (Q : AExit → List Value → AH → Prop) : once 0 Tryz.prog SRd [] LRh 900 70 [0, 2, 4, 5] [2] [2, 3] [1] (oneLoop (codeOf Tryz.f37) 4) [.string s, .pointer (some ⟨0, 0, none⟩), .pointer (some ⟨1, 0, none⟩), .int .i64 0] (rhH0 F a) B Q =
    rhC s a (Q .ret noL (bdH0 F a)) fun l a => B [.string s, .pointer (some ⟨0, 0, none⟩), .pointer (some ⟨1, 0, none⟩), .int .i64 1] (rhH0 l a) := by kernel_rfl
theorem rhr1 (s F : ByteArray) (a n : Int) (B : List Value → AH → Prop) (Q : AExit → List Value → AH → Prop) : once 0 Tryz.prog SRd [] LRh 900 70 [0, 2, 4, 5] [2] [2, 3] [1] (oneLoop (codeOf Tryz.f37) 4) [.string s, .pointer (some ⟨0, 0, none⟩), .pointer (some ⟨1, 0, none⟩), .int .i64 n] (rhH0 F a) B Q =
    rhC s a (Q .ret noL (bdH0 F a)) fun l a => rhL n l (B [.string s, .pointer (some ⟨0, 0, none⟩), .pointer (some ⟨1, 0, none⟩), .int .i64 (W (n + 1))] (rhH0 l a)) (Q .ret okL (fnH F a [])) (Q .ret noL (bdH0 F a)) fun nm v => NNR [.string nm, .string v] ∧ B [.string s, .pointer (some ⟨0, 0, none⟩), .pointer (some ⟨1, 0, none⟩), .int .i64 (W (n + 1))] (rhH1 F a [.string nm, .string v] 1) := by kernel_rfl
theorem rhr2 (s F : ByteArray) (a n : Int) (cs : List Value) (k : Nat) (B : List Value → AH → Prop) (Q : AExit → List Value → AH → Prop) : once 0 Tryz.prog SRd [] LRh 900 70 [0, 2, 4, 5] [2] [2, 3] [1] (oneLoop (codeOf Tryz.f37) 4) [.string s, .pointer (some ⟨0, 0, none⟩), .pointer (some ⟨1, 0, none⟩), .int .i64 n] (rhH1 F a cs k) B Q =
    rhC s a (NNR cs ∧ Q .ret noL (bdH1 F a cs k)) fun l a => rhL n l (NNR cs ∧ B [.string s, .pointer (some ⟨0, 0, none⟩), .pointer (some ⟨1, 0, none⟩), .int .i64 (W (n + 1))] (rhH1 l a cs k))
      (bif !Nat.beq 0 2 && cs.all p1 && Nat.ble k k && Nat.ble (k * 2) (Array.mk cs).size && true then Q .ret okL (fnH F a (chunk true 2 k cs)) else False)
      (NNR cs ∧ Q .ret noL (bdH1 F a cs k)) fun nm v => apP cs k [.string nm, .string v] fun cs k => NNR cs ∧ B [.string s, .pointer (some ⟨0, 0, none⟩), .pointer (some ⟨1, 0, none⟩), .int .i64 (W (n + 1))] (rhH1 F a cs k) := by kernel_rfl

/-! the plain side -/
def prC (p : Bs × Bs) : List Value := [strV p.1, strV p.2]
theorem prC_len : ∀ D : List (Bs × Bs), (D.flatMap prC).length = D.length * 2
  | [] => rfl
  | p :: l => by
    rw [List.flatMap_cons, List.length_append, prC_len l, List.length_cons]
    show 2 + _ = _
    omega
theorem p1_prC {L : List (Bs × Bs)} : ∀ v ∈ L.flatMap prC, p1 v = true := by
  intro v hv
  obtain ⟨t, _, h⟩ := List.mem_flatMap.1 hv
  simp only [prC, List.mem_cons, List.not_mem_nil, or_false] at h
  rcases h with rfl | rfl <;> rfl
theorem nnP (L : List (Bs × Bs)) (t : TypeId) (fr : Nat × Nat) : NoNames (.cells ⟨L.flatMap prC⟩ t fr) := fun v hv => p1_prC v (by simpa using hv)
theorem chunk_pr : ∀ L : List (Bs × Bs), chunk true 2 L.length (L.flatMap prC) = L.map prV
  | [] => rfl
  | p :: l => by
    show .agg ⟨List.take 2 (prC p ++ l.flatMap prC)⟩ :: chunk true 2 l.length (List.drop 2 (prC p ++ l.flatMap prC)) = prV p :: l.map prV
    rw [show List.drop 2 (prC p ++ l.flatMap prC) = l.flatMap prC from rfl, chunk_pr l]
    rfl
theorem apP_ok {D : List (Bs × Bs)} {p : Bs × Bs} {X : List Value → Nat → Prop} (hl : D.length ≤ 100000) (hX : X ((D ++ [p]).flatMap prC) (D ++ [p]).length) : apP (D.flatMap prC) D.length (prC p) X := by
  refine pick_f (ble_no (by omega)) (need_mk ?_ (need_mk ?_ ?_))
  · rw [Bool.and_eq_true, Nat.ble_eq, Nat.ble_eq]; omega
  · have : (0 + D.length * 2).ble (Array.mk (D.flatMap prC)).size = true := by
      rw [Nat.ble_eq]
      show 0 + D.length * 2 ≤ (D.flatMap prC).length
      rw [prC_len]; omega
    rw [this]; rfl
  · have e : List.take (D.length * 2) (List.drop 0 (Array.mk (D.flatMap prC)).toList) ++ prC p = (D ++ [p]).flatMap prC := by
      rw [List.drop_zero]
      show List.take (D.length * 2) (D.flatMap prC) ++ _ = _
      rw [List.take_of_length_le (by rw [prC_len]; exact Nat.le_refl _), List.flatMap_append]
      simp
    rw [e]
    rw [List.length_append] at hX
    exact hX
theorem ix1 : ∀ (l r : Bs), (58 : UInt8) ∉ l → Lib.index (l ++ 58 :: r) [58] = (l.length : Int)
  | [], r, _ => by
    rw [List.nil_append, Lib.index]
    rfl
  | c :: l, r, h => by
    have h1 : ¬ (58 : UInt8) = c := fun e => h (by simp [e])
    have ih := ix1 l r fun e => h (by simp [e])
    rw [List.cons_append, Lib.index, ih]
    have hp : List.isPrefixOf [58] (c :: (l ++ 58 :: r)) = false := by
      rw [List.isPrefixOf_cons_cons]
      have : ((58 : UInt8) == c) = false := beq_eq_false_iff_ne.2 h1
      rw [this]; rfl
    have hn : (((l.length : Nat) : Int) == -1) = false := by rw [beq_eq_false_iff_ne]; omega
    rw [hp, hn]
    simp
theorem ctC_ok {h r : Bs} (hh : (58 : UInt8) ∉ h) (hl : (h ++ 58 :: r).length ≤ 100000) {K : ByteArray → ByteArray → Bool → Prop} (hK : K (bl h) (bl r) true) : ctC (bl (h ++ 58 :: r)) K := by
  have hx : ixC (bl (h ++ 58 :: r)) = (h.length : Int) := by unfold ixC; rw [bl_list]; exact ix1 h r hh
  have hlen : (h ++ 58 :: r).length = h.length + (r.length + 1) := by simp
  have w1 : W ((h.length : Int) + 1) = ((h.length + 1 : Nat) : Int) := w_nat 1 (by omega) (by omega)
  have e1 : (bl (h ++ 58 :: r)).extract 0 h.length = bl h := by
    rw [bl_cut _ _ _ (by omega), List.drop_zero, List.take_left]
  have e2 : (bl (h ++ 58 :: r)).extract (h.length + 1) (h ++ 58 :: r).length = bl r := by
    rw [bl_cut _ _ _ (Nat.le_refl _), List.take_length, ← List.drop_drop, List.drop_left]
    rfl
  unfold ctC
  rw [hx, w1, bl_size]
  simp only [Int.toNat_natCast, e1, e2]
  refine need_mk (by rw [Nat.ble_eq_true_of_le (by omega)]; rfl) (pick_t (decide_eq_true (by omega)) (need_mk ?_ (need_mk ?_ hK)))
  · simp only [Bool.and_eq_true, decide_eq_true_eq]; omega
  · simp only [Bool.and_eq_true, decide_eq_true_eq]; omega
theorem rhC_ok {pre h rest : Bs} (hh : (13 : UInt8) ∉ h) (hs : (pre ++ (h ++ 13 :: 10 :: rest)).length ≤ 100000) {bad : Prop} {K : ByteArray → Int → Prop} (hK : K (bl h) ((pre ++ (h ++ [13, 10])).length : Int)) :
    rhC (bl (pre ++ (h ++ 13 :: 10 :: rest))) ((pre.length : Nat) : Int) bad K := by
  have hl : (pre ++ (h ++ 13 :: 10 :: rest)).length = pre.length + (h.length + (rest.length + 2)) := by simp
  have w2 : W ((h.length : Int) + 2) = ((h.length + 2 : Nat) : Int) := w_nat 2 (by omega) (by omega)
  have w5 : W ((pre.length : Int) + ((h.length + 2 : Nat) : Int)) = ((pre.length + (h.length + 2) : Nat) : Int) := w_add (by omega)
  refine frS_ok (ctE_ok hh (by simp at hs ⊢; omega) (pick_f rfl ?_))
  rw [bl_size, w2, w5]
  have e : pre.length + (h.length + 2) = (pre ++ (h ++ [13, 10])).length := by simp
  rw [e]
  exact hK
theorem LE2_bl' {l : List UInt8} (h : l.length ≤ 20000) : LE2 (bl l) = true := LE2_bl h
theorem rhL_ok {n : Int} (hn : n ≠ 0) {nm v : Bs} (h1 : tokB nm = true) (h2 : fldQ v = true) (hl : (nm ++ 58 :: 32 :: v).length ≤ 20000) {first fin bad : Prop} {good : ByteArray → ByteArray → Prop} (hg : good (bl nm) (bl v)) :
    rhL n (bl (nm ++ 58 :: 32 :: v)) first fin bad good := by
  have hlen : (nm ++ 58 :: 32 :: v).length = nm.length + (v.length + 2) := by simp
  have ht : Lib.trimB (32 :: v) 32 = v := trim_blank (fld_no h2).2
  refine pick_f (by rw [beq_eq_false_iff_ne]; exact hn) (pick_f (by rw [bl_beq0]; cases nm <;> rfl) (ctC_ok (tok_no h1).1 (by omega) ?_))
  simp only [bl_list, ht]
  refine need_mk ?_ (pick_f rfl (need_mk (LE2_bl (by omega)) (pick_f (by rw [h1]; rfl) (pick_f (by rw [h2]; rfl) hg))))
  rw [bl_size, Nat.ble_eq_true_of_le (by rw [List.length_cons]; omega)]
  rfl
theorem rhL_fin {n : Int} (hn : n ≠ 0) {first fin bad : Prop} {good : ByteArray → ByteArray → Prop} (hf : fin) : rhL n (bl []) first fin bad good :=
  pick_f (by rw [beq_eq_false_iff_ne]; exact hn) (pick_t (by rw [bl_beq0]; rfl) hf)
def rhS (F : Bs) (a : Int) : List (Bs × Bs) → AH
  | [] => rhH0 (bl F) a
  | p :: H => rhH1 (bl F) a ((p :: H).flatMap prC) (p :: H).length
theorem rhS_snoc (F : Bs) (a : Int) (H : List (Bs × Bs)) (p : Bs × Bs) : rhS F a (H ++ [p]) = rhH1 (bl F) a ((H ++ [p]).flatMap prC) (H ++ [p]).length := by
  cases H <;> rfl
set_option maxRecDepth 20000 in
theorem rh_it (n : Nat) {vals : List Value} {h : AH} {K : AExit → List Value → AH → Prop} (hx : once 0 Tryz.prog SRd [] LRh 900 70 [0, 2, 4, 5] [2] [2, 3] [1] (oneLoop (codeOf Tryz.f37) 4) vals h (fun v g => iter 0 Tryz.prog SRd [] LRh 900 70 [0, 2, 4, 5] [2] [2, 3] [1] (oneLoop (codeOf Tryz.f37) 4) n v g K) K) : iter 0 Tryz.prog SRd [] LRh 900 70 [0, 2, 4, 5] [2] [2, 3] [1] (oneLoop (codeOf Tryz.f37) 4) (n + 1) vals h K := hx
set_option maxRecDepth 20000 in
theorem rh_step {pre F rest nm v : Bs} {H : List (Bs × Bs)} {n : Nat} (hn : 1 ≤ n) (hn2 : n ≤ 1000) (h1 : tokB nm = true) (h2 : fldQ v = true) (hl : (nm ++ 58 :: 32 :: v).length ≤ 20000) (hH : H.length ≤ 1000)
    (hs : (pre ++ ((nm ++ 58 :: 32 :: v) ++ 13 :: 10 :: rest)).length ≤ 100000) (B : List Value → AH → Prop) (Q : AExit → List Value → AH → Prop)
    (hB : B [.string (bl (pre ++ ((nm ++ 58 :: 32 :: v) ++ 13 :: 10 :: rest))), .pointer (some ⟨0, 0, none⟩), .pointer (some ⟨1, 0, none⟩), .int .i64 ((n + 1 : Nat) : Int)] (rhS F ((pre ++ ((nm ++ 58 :: 32 :: v) ++ [13, 10])).length : Int) (H ++ [(nm, v)]))) : once 0 Tryz.prog SRd [] LRh 900 70 [0, 2, 4, 5] [2] [2, 3] [1] (oneLoop (codeOf Tryz.f37) 4) [.string (bl (pre ++ ((nm ++ 58 :: 32 :: v) ++ 13 :: 10 :: rest))), .pointer (some ⟨0, 0, none⟩), .pointer (some ⟨1, 0, none⟩), .int .i64 (n : Int)] (rhS F ((pre.length : Nat) : Int) H) B Q := by
  have hh : (13 : UInt8) ∉ nm ++ 58 :: 32 :: v := by
    intro q
    rcases List.mem_append.1 q with q | q
    · exact (tok_no h1).2 q
    · rcases List.mem_cons.1 q with q | q
      · revert q; decide
      · rcases List.mem_cons.1 q with q | q
        · revert q; decide
        · exact (fld_no h2).1 q
  have wn : W ((n : Int) + 1) = ((n + 1 : Nat) : Int) := w_nat 1 (by omega) (by omega)
  rw [rhS_snoc] at hB
  cases H with
  | nil =>
    refine (rhr1 _ _ _ _ B Q).mpr (rhC_ok hh hs (rhL_ok (by omega) h1 h2 hl ⟨nnP [(nm, v)] _ _, ?_⟩))
    rw [wn]
    exact hB
  | cons p H =>
    refine (rhr2 _ _ _ _ _ _ B Q).mpr (rhC_ok hh hs (rhL_ok (by omega) h1 h2 hl (apP_ok (D := p :: H) (p := (nm, v)) (by omega) ⟨nnP _ _ _, ?_⟩)))
    rw [wn]
    exact hB
set_option maxRecDepth 20000 in
theorem rh_end {pre F rest : Bs} {H : List (Bs × Bs)} {n : Nat} (hn : 1 ≤ n) (hs : (pre ++ ([] ++ 13 :: 10 :: rest)).length ≤ 100000) (B : List Value → AH → Prop) (Q : AExit → List Value → AH → Prop)
    (hQ : Q .ret okL (fnH (bl F) ((pre ++ [13, 10]).length : Int) (H.map prV))) : once 0 Tryz.prog SRd [] LRh 900 70 [0, 2, 4, 5] [2] [2, 3] [1] (oneLoop (codeOf Tryz.f37) 4) [.string (bl (pre ++ ([] ++ 13 :: 10 :: rest))), .pointer (some ⟨0, 0, none⟩), .pointer (some ⟨1, 0, none⟩), .int .i64 (n : Int)] (rhS F ((pre.length : Nat) : Int) H) B Q := by
  cases H with
  | nil => exact (rhr1 _ _ _ _ B Q).mpr (rhC_ok (by simp) hs (rhL_fin (by omega) hQ))
  | cons p H =>
    refine (rhr2 _ _ _ _ _ _ B Q).mpr (rhC_ok (by simp) hs (rhL_fin (by omega) (need_mk ?_ ?_)))
    · have h1 : ((p :: H).flatMap prC).all p1 = true := List.all_eq_true.2 fun x hx => p1_prC x hx
      have h2 : Nat.ble ((p :: H).length * 2) (Array.mk ((p :: H).flatMap prC)).size = true := by
        rw [Nat.ble_eq]; show _ ≤ ((p :: H).flatMap prC).length; rw [prC_len]; exact Nat.le_refl _
      rw [h1, h2, Nat.ble_eq_true_of_le (Nat.le_refl _)]; rfl
    · rw [chunk_pr]
      exact hQ
set_option maxRecDepth 20000 in
theorem rh_loop (K : AExit → List Value → AH → Prop) (F R : Bs) : ∀ (H2 : List (Bs × Bs)) (pre : Bs) (H : List (Bs × Bs)) (n : Nat), 1 ≤ n → n + H2.length ≤ 500 → H.length + H2.length ≤ 500 → (∀ p ∈ H2, tokB p.1 = true ∧ fldQ p.2 = true) → (pre ++ (H2.flatMap BytesLaw.hdB ++ 13 :: 10 :: R)).length ≤ 20000 →
    K .ret okL (fnH (bl F) ((pre ++ (H2.flatMap BytesLaw.hdB ++ [13, 10])).length : Int) ((H ++ H2).map prV)) → iter 0 Tryz.prog SRd [] LRh 900 70 [0, 2, 4, 5] [2] [2, 3] [1] (oneLoop (codeOf Tryz.f37) 4) (H2.length + 1) [.string (bl (pre ++ (H2.flatMap BytesLaw.hdB ++ 13 :: 10 :: R))), .pointer (some ⟨0, 0, none⟩), .pointer (some ⟨1, 0, none⟩), .int .i64 (n : Int)] (rhS F ((pre.length : Nat) : Int) H) K
  | [], pre, H, n, hn, _, _, _, hs, hK => by
    rw [List.append_nil] at hK
    exact rh_it 0 (rh_end hn (by simp only [List.flatMap_nil, List.nil_append] at hs ⊢; omega) _ _ hK)
  | (nm, v) :: H2, pre, H, n, hn, hn2, hH, hok, hs, hK => by
    obtain ⟨t1, t2⟩ := hok (nm, v) (by simp)
    have e1 : ((nm, v) :: H2).flatMap BytesLaw.hdB ++ 13 :: 10 :: R = (nm ++ 58 :: 32 :: v) ++ 13 :: 10 :: (H2.flatMap BytesLaw.hdB ++ 13 :: 10 :: R) := by
      rw [List.flatMap_cons]
      unfold BytesLaw.hdB
      simp
    have e2 : pre ++ ((nm ++ 58 :: 32 :: v) ++ 13 :: 10 :: (H2.flatMap BytesLaw.hdB ++ 13 :: 10 :: R)) = (pre ++ ((nm ++ 58 :: 32 :: v) ++ [13, 10])) ++ (H2.flatMap BytesLaw.hdB ++ 13 :: 10 :: R) := by simp
    have e3 : pre ++ (((nm, v) :: H2).flatMap BytesLaw.hdB ++ [13, 10]) = (pre ++ ((nm ++ 58 :: 32 :: v) ++ [13, 10])) ++ (H2.flatMap BytesLaw.hdB ++ [13, 10]) := by
      rw [List.flatMap_cons]
      unfold BytesLaw.hdB
      simp
    rw [List.length_cons] at hn2 hH
    rw [e1] at hs ⊢
    have hl : (nm ++ 58 :: 32 :: v).length ≤ 20000 := by
      simp only [List.length_append, List.length_cons] at hs ⊢; omega
    refine rh_it _ (rh_step hn (by omega) t1 t2 hl (by omega) (Nat.le_trans hs (by omega)) _ _ ?_)
    rw [e2] at hs ⊢
    refine rh_loop K F R H2 _ (H ++ [(nm, v)]) (n + 1) (by omega) (by omega) (by rw [List.length_append, List.length_singleton]; omega) (fun p hp => hok p (by simp [hp])) hs ?_
    rw [e3, show H ++ (nm, v) :: H2 = (H ++ [(nm, v)]) ++ H2 by simp] at hK
    exact hK
def headT (F : Bs) (H : List (Bs × Bs)) : Bs := F ++ (13 :: 10 :: (H.flatMap BytesLaw.hdB ++ [13, 10]))
theorem oneRH' : (loopAt (codeOf Tryz.f37) 4).length = 1 := by kernel_rfl
theorem someRHD : Tryz.f37.body.isSome = true := by kernel_rfl
theorem rhf (s F : ByteArray) (a : Int) (vs : List Value) (C : List Value → AH → Prop) (Q : Value → Prop) : tfn Tryz.prog SRd [] (hook1 4 (hookLS 0 70 [0, 2, 4, 5] [2] [2, 3] (fun vals h K => C vals h ∧ K .ret okL (fnH F a vs)))) 900 [] Tryz.f37 [.string s] h0 (fun v _ => Q v) =
    (C [.string s, .pointer (some ⟨0, 0, none⟩), .pointer (some ⟨1, 0, none⟩), .int .i64 0] (rhH0 ⟨#[]⟩ 0) ∧ Q (.tuple ⟨[.agg ⟨[.string F, fz ⟨vs⟩, .int .i64 a]⟩, .bool true]⟩)) := by kernel_rfl
set_option maxRecDepth 20000 in
theorem rh_fn {F R : Bs} {H : List (Bs × Bs)} (hF : (13 : UInt8) ∉ F) (hn : H.length ≤ 100) (hok : ∀ p ∈ H, tokB p.1 = true ∧ fldQ p.2 = true) (hs : (headT F H ++ R).length ≤ 20000) :
    FnOK 0 Tryz.prog 37 ⟨[.string (bl (headT F H ++ R))]⟩ h0 (fun v _ => v = .tuple ⟨[.agg ⟨[.string (bl F), fz ⟨H.map prV⟩, .int .i64 ((headT F H).length : Int)]⟩, .bool true]⟩) := by
  refine FnOK.ttree SRd_ok mixed Tryz.func37 someRHD (loops_one oneRH' ?_) (rhf (bl (headT F H ++ R)) (bl F) ((headT F H).length : Int) (H.map prV) (fun vals h => vals = [.string (bl (headT F H ++ R)), .pointer (some ⟨0, 0, none⟩), .pointer (some ⟨1, 0, none⟩), .int .i64 0] ∧ h = rhH0 ⟨#[]⟩ 0) (fun v => v = .tuple ⟨[.agg ⟨[.string (bl F), fz ⟨H.map prV⟩, .int .i64 ((headT F H).length : Int)]⟩, .bool true]⟩)) ⟨⟨rfl, rfl⟩, rfl⟩
  refine hook_ok (G := []) (L := LRh) (f := 900) (sameX := [1]) SRd_ok mixed (by decide) (ghosts_one (by kernel_rfl) (freezeH_ok _ _ _ _ _ _ _)) ?_
  rintro vals h K ⟨⟨rfl, rfl⟩, hK⟩
  have e1 : headT F H ++ R = [] ++ (F ++ 13 :: 10 :: (H.flatMap BytesLaw.hdB ++ 13 :: 10 :: R)) := by unfold headT; simp
  have e2 : [] ++ (F ++ 13 :: 10 :: (H.flatMap BytesLaw.hdB ++ 13 :: 10 :: R)) = ([] ++ (F ++ [13, 10])) ++ (H.flatMap BytesLaw.hdB ++ 13 :: 10 :: R) := by simp
  have e3 : headT F H = ([] ++ (F ++ [13, 10])) ++ (H.flatMap BytesLaw.hdB ++ [13, 10]) := by unfold headT; simp
  refine ⟨H.length + 1 + 1, rh_it _ ?_⟩
  rw [e1] at hs ⊢
  refine (rhr0 _ _ _ _ _).mpr (rhC_ok (pre := []) hF (by omega) ?_)
  rw [e2] at hs ⊢
  rw [e3] at hK
  exact rh_loop K F R H _ [] 1 (Nat.le_refl _) (by omega) (by simp; omega) hok hs hK
end Go.Proofs.YtjphemllikflpaaGreatDoor
