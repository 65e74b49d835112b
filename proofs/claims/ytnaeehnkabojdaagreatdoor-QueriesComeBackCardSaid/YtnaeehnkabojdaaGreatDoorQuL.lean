/-
  Queries: DeleteFunc and SortFunc on rows of pairs.
-/
import Derived.Test.YtnaeehnkabojdaaGreatDoorQuJ
namespace Go.Proofs.YtnaeehnkabojdaaGreatDoor
open Go.Ev Go.RowKit RecLaw PathLaw QueryLaw

abbrev PB : Type := ByteArray × ByteArray
def pbC (p : PB) : List Value := [.string p.1, .string p.2]
def pbO (p : Bs × Bs) : PB := (bl p.1, bl p.2)
theorem pbC_map : ∀ L : List (Bs × Bs), (L.map pbO).flatMap pbC = L.flatMap prC
  | [] => rfl
  | p :: l => by rw [List.map_cons, List.flatMap_cons, List.flatMap_cons, pbC_map l]; rfl
theorem pbC_len : ∀ D : List PB, (D.flatMap pbC).length = D.length * 2
  | [] => rfl
  | p :: l => by
    rw [List.flatMap_cons, List.length_append, pbC_len l, List.length_cons]
    show 2 + _ = _
    omega
def isZ (p : PB) : Bool := p.1 == ⟨#[]⟩ && (p.2 == ⟨#[]⟩ && true)
def zs : Nat → List Value
  | 0 => []
  | n + 1 => .string ⟨#[]⟩ :: .string ⟨#[]⟩ :: zs n
def slc (k n : Nat) : Value := .slice (some ⟨0, 0, none⟩) k n
def rowO (cs : List Value) : Option Obj := some (.cells ⟨cs⟩ 30 (0, 0))
noncomputable def dfB (Q : Value → Option Obj → Prop) (n : Nat) : List PB → List PB → Prop
  | [], K => Q (slc K.length n) (rowO (K.flatMap pbC ++ zs (n - K.length)))
  | p :: r, K => bif !isZ p then dfB Q n r (K ++ [p]) else dfB Q n r K
noncomputable def dfA (Q : Value → Option Obj → Prop) (n : Nat) : List PB → List PB → Prop
  | [], K => Q (slc n n) (rowO (K.flatMap pbC))
  | p :: r, K => bif isZ p then dfB Q n r K else dfA Q n r (K ++ [p])
noncomputable def SNp : SC := ⟨idn, fun _ _ _ => none, true, true⟩
theorem SNp_ok : SNp.cfg.OK Tryz.prog := none_ok.cfg
def cloD : Value := .func (.func 34) ⟨[]⟩ ⟨[]⟩
def cloS : Value := .func (.func 36) ⟨[]⟩ ⟨[]⟩
theorem dfe1 (a0 b0 : ByteArray) (Q : Value → Option Obj → Prop) : ffn Tryz.prog SNp [] 3000 [] Tryz.f33 [slc 1 1, cloD] (oP [.string a0, .string b0]) (fun v h => Q v (h.get 0)) = dfA Q 1 [(a0, b0)] [] := by kernel_rfl
theorem dfe2 (a0 b0 a1 b1 : ByteArray) (Q : Value → Option Obj → Prop) : ffn Tryz.prog SNp [] 3000 [] Tryz.f33 [slc 2 2, cloD] (oP [.string a0, .string b0, .string a1, .string b1]) (fun v h => Q v (h.get 0)) = dfA Q 2 [(a0, b0), (a1, b1)] [] := by kernel_rfl
theorem dfe3 (a0 b0 a1 b1 a2 b2 : ByteArray) (Q : Value → Option Obj → Prop) : ffn Tryz.prog SNp [] 3000 [] Tryz.f33 [slc 3 3, cloD] (oP [.string a0, .string b0, .string a1, .string b1, .string a2, .string b2]) (fun v h => Q v (h.get 0)) = dfA Q 3 [(a0, b0), (a1, b1), (a2, b2)] [] := by kernel_rfl
theorem dfe4 (a0 b0 a1 b1 a2 b2 a3 b3 : ByteArray) (Q : Value → Option Obj → Prop) : ffn Tryz.prog SNp [] 3000 [] Tryz.f33 [slc 4 4, cloD] (oP [.string a0, .string b0, .string a1, .string b1, .string a2, .string b2, .string a3, .string b3]) (fun v h => Q v (h.get 0)) = dfA Q 4 [(a0, b0), (a1, b1), (a2, b2), (a3, b3)] [] := by kernel_rfl
theorem someDF : Tryz.f33.body.isSome = true := by kernel_rfl
def dlB (L : List PB) : List PB := L.filter fun p => !isZ p
theorem zs_len : ∀ n, (zs n).length = n * 2
  | 0 => rfl
  | n + 1 => by
    show (zs n).length + 1 + 1 = _
    rw [zs_len n]; omega
theorem dlB_cons (p : PB) (r : List PB) : dlB (p :: r) = bif isZ p then dlB r else p :: dlB r := by
  unfold dlB
  rw [List.filter_cons]
  cases isZ p <;> rfl
theorem dfB_ok {Q : Value → Option Obj → Prop} {n : Nat} : ∀ (r K : List PB), K.length + r.length ≤ n → (∀ cs, cs.length = n * 2 → cs.take ((K ++ dlB r).length * 2) = (K ++ dlB r).flatMap pbC → Q (slc (K ++ dlB r).length n) (rowO cs)) → dfB Q n r K
  | [], K, h1, hQ => by
    rw [show dlB [] = [] from rfl, List.append_nil] at hQ
    rw [List.length_nil] at h1
    refine hQ _ ?_ ?_
    · rw [List.length_append, pbC_len, zs_len]; omega
    · rw [List.take_append_of_le_length (by rw [pbC_len]; exact Nat.le_refl _), List.take_of_length_le (by rw [pbC_len]; exact Nat.le_refl _)]
  | p :: r, K, h1, hQ => by
    rw [List.length_cons] at h1
    rw [dlB_cons] at hQ
    show (bif !isZ p then dfB Q n r (K ++ [p]) else dfB Q n r K)
    cases hz : isZ p with
    | true =>
      rw [hz] at hQ
      exact pick_f rfl (dfB_ok r K (by omega) hQ)
    | false =>
      rw [hz] at hQ
      refine pick_t rfl (dfB_ok r (K ++ [p]) (by simp; omega) ?_)
      rw [List.append_assoc]
      exact hQ
theorem dfA_ok {Q : Value → Option Obj → Prop} {n : Nat} : ∀ (r K : List PB), K.length + r.length = n → (∀ cs, cs.length = n * 2 → cs.take ((K ++ dlB r).length * 2) = (K ++ dlB r).flatMap pbC → Q (slc (K ++ dlB r).length n) (rowO cs)) → dfA Q n r K
  | [], K, h1, hQ => by
    rw [show dlB [] = [] from rfl, List.append_nil] at hQ
    rw [List.length_nil, Nat.add_zero] at h1
    subst h1
    exact hQ _ (pbC_len K) (List.take_of_length_le (by rw [pbC_len]; exact Nat.le_refl _))
  | p :: r, K, h1, hQ => by
    rw [List.length_cons] at h1
    rw [dlB_cons] at hQ
    show (bif isZ p then dfB Q n r K else dfA Q n r (K ++ [p]))
    cases hz : isZ p with
    | true =>
      rw [hz] at hQ
      exact pick_t rfl (dfB_ok r K (by omega) hQ)
    | false =>
      rw [hz] at hQ
      refine pick_f rfl (dfA_ok r (K ++ [p]) (by simp; omega) ?_)
      rw [List.append_assoc]
      exact hQ
theorem isZ_bl (p : Bs × Bs) : isZ (pbO p) = (p.1.isEmpty && p.2.isEmpty) := by
  show (bl p.1 == ⟨#[]⟩ && (bl p.2 == ⟨#[]⟩ && true)) = _
  rw [bl_emp, bl_emp, Bool.and_true]
theorem dl_map : ∀ L : List (Bs × Bs), dlB (L.map pbO) = (dl L).map pbO
  | [] => rfl
  | p :: l => by
    rw [List.map_cons, dlB_cons, dl_map l, isZ_bl]
    unfold dl
    rw [List.filter_cons]
    cases (p.1.isEmpty && p.2.isEmpty) <;> rfl
theorem df_row : ∀ (L : List (Bs × Bs)), L ≠ [] → L.length ≤ 4 → FnOK 1 Tryz.prog 33 ⟨[slc L.length L.length, cloD]⟩ (oP (L.flatMap prC))
    (fun v g => v = slc (dl L).length L.length ∧ ∃ cs : List Value, g.get 0 = rowO cs ∧ cs.length = L.length * 2 ∧ cs.take ((dl L).length * 2) = (dl L).flatMap prC)
  | [], h, _ => absurd rfl h
  | [p0], _, _ => by
    have e := dfe1 (bl p0.1) (bl p0.2) (fun v o => v = slc (dl [p0]).length 1 ∧ ∃ cs : List Value, o = rowO cs ∧ cs.length = 1 * 2 ∧ cs.take ((dl [p0]).length * 2) = (dl [p0]).flatMap prC)
    refine FnOK.ftree (p := 1) SNp_ok mixed Tryz.func33 someDF e (dfA_ok _ [] rfl ?_)
    intro cs h1 h2
    have hd : dlB [(bl p0.1, bl p0.2)] = (dl [p0]).map pbO := dl_map [p0]
    rw [List.nil_append, hd, List.length_map, pbC_map] at h2
    rw [List.nil_append, hd, List.length_map]
    exact ⟨rfl, cs, rfl, h1, h2⟩
  | [p0, p1], _, _ => by
    have e := dfe2 (bl p0.1) (bl p0.2) (bl p1.1) (bl p1.2) (fun v o => v = slc (dl [p0, p1]).length 2 ∧ ∃ cs : List Value, o = rowO cs ∧ cs.length = 2 * 2 ∧ cs.take ((dl [p0, p1]).length * 2) = (dl [p0, p1]).flatMap prC)
    refine FnOK.ftree (p := 1) SNp_ok mixed Tryz.func33 someDF e (dfA_ok _ [] rfl ?_)
    intro cs h1 h2
    have hd : dlB [(bl p0.1, bl p0.2), (bl p1.1, bl p1.2)] = (dl [p0, p1]).map pbO := dl_map [p0, p1]
    rw [List.nil_append, hd, List.length_map, pbC_map] at h2
    rw [List.nil_append, hd, List.length_map]
    exact ⟨rfl, cs, rfl, h1, h2⟩
  | [p0, p1, p2], _, _ => by
    have e := dfe3 (bl p0.1) (bl p0.2) (bl p1.1) (bl p1.2) (bl p2.1) (bl p2.2) (fun v o => v = slc (dl [p0, p1, p2]).length 3 ∧ ∃ cs : List Value, o = rowO cs ∧ cs.length = 3 * 2 ∧ cs.take ((dl [p0, p1, p2]).length * 2) = (dl [p0, p1, p2]).flatMap prC)
    refine FnOK.ftree (p := 1) SNp_ok mixed Tryz.func33 someDF e (dfA_ok _ [] rfl ?_)
    intro cs h1 h2
    have hd : dlB [(bl p0.1, bl p0.2), (bl p1.1, bl p1.2), (bl p2.1, bl p2.2)] = (dl [p0, p1, p2]).map pbO := dl_map [p0, p1, p2]
    rw [List.nil_append, hd, List.length_map, pbC_map] at h2
    rw [List.nil_append, hd, List.length_map]
    exact ⟨rfl, cs, rfl, h1, h2⟩
  | [p0, p1, p2, p3], _, _ => by
    have e := dfe4 (bl p0.1) (bl p0.2) (bl p1.1) (bl p1.2) (bl p2.1) (bl p2.2) (bl p3.1) (bl p3.2) (fun v o => v = slc (dl [p0, p1, p2, p3]).length 4 ∧ ∃ cs : List Value, o = rowO cs ∧ cs.length = 4 * 2 ∧ cs.take ((dl [p0, p1, p2, p3]).length * 2) = (dl [p0, p1, p2, p3]).flatMap prC)
    refine FnOK.ftree (p := 1) SNp_ok mixed Tryz.func33 someDF e (dfA_ok _ [] rfl ?_)
    intro cs h1 h2
    have hd : dlB [(bl p0.1, bl p0.2), (bl p1.1, bl p1.2), (bl p2.1, bl p2.2), (bl p3.1, bl p3.2)] = (dl [p0, p1, p2, p3]).map pbO := dl_map [p0, p1, p2, p3]
    rw [List.nil_append, hd, List.length_map, pbC_map] at h2
    rw [List.nil_append, hd, List.length_map]
    exact ⟨rfl, cs, rfl, h1, h2⟩
  | _ :: _ :: _ :: _ :: _ :: _, _, h => absurd h (by simp)
theorem widP : width Tryz.prog 30 = 2 := by kernel_rfl
theorem df_fn {L : List (Bs × Bs)} (h1 : L ≠ []) (h2 : L.length ≤ 4) : FnOK 1 Tryz.prog 33 ⟨[slc L.length L.length, cloD]⟩ (oP (L.flatMap prC))
    (fun v g => v = .slice (some ⟨0, 0, none⟩) (dl L).length (dl L).length ∧ g.get 0 = some (.cells ⟨(dl L).flatMap prC⟩ 30 (0, 0))) := by
  refine FnOK.weak1 ((df_row L h1 h2).mono ?_)
  rintro v g ⟨rfl, cs, hg, hl, ht⟩
  have hle := dl_len L
  have hW := Weak.cut (p := 1) (P := Tryz.prog) (τ := #[slc (dl L).length L.length]) (τ2 := #[slc (dl L).length (dl L).length]) (g := 0) (h := g) (n := (dl L).length) (c := L.length) (k := 2) hg widP (by omega) hle rfl (fun i => by
    cases i with
    | zero => exact .inr ⟨rfl, rfl⟩
    | succ i => exact .inl (by simp))
  rw [ht] at hW
  exact ⟨_, _, hW, rfl, look_setB_self hg⟩
/-! SortFunc -/
abbrev CMP (a b : ByteArray) : Int := Go.Extern.BytealgCompare.cmp a b
theorem cpe (a b c d : ByteArray) (Q : Value → Prop) : ffn Tryz.prog SNp [] 3000 [] Tryz.f36 [.agg ⟨[.string a, .string b]⟩, .agg ⟨[.string c, .string d]⟩] h0 (fun v _ => Q v) =
    bif !(a.toList == c.toList) then Q (.int .i64 (CMP a c)) else Q (.int .i64 (CMP b d)) := by kernel_rfl
theorem someCP : Tryz.f36.body.isSome = true := by kernel_rfl
theorem cmp_by (a b : ByteArray) : CMP a b = Lib.compareBytes a.data.toList b.data.toList := Lib.cmp_eq a b
noncomputable def spCp (f : FuncId) (args : Array Value) (h : AH) : Option (Bool × Value × AH) :=
  cond (Nat.beq f 36) (match args with
    | ⟨[.agg ⟨[.string a, .string b]⟩, .agg ⟨[.string c, .string d]⟩]⟩ => some (true, .int .i64 (cmpP (a.data.toList, b.data.toList) (c.data.toList, d.data.toList)), h)
    | _ => none) none
theorem spCp_ok : SpOK spCp := by
  intro f args h v h' hs
  unfold spCp at hs
  obtain ⟨hf, hs2⟩ := cond_some hs
  clear hs
  have := Nat.eq_of_beq_eq_true hf
  subst this
  split at hs2
  · injection hs2 with hs
    injection hs with hb hs
    injection hs with hv hh
    subst hv hh
    rename_i a b c d
    refine ⟨FnOK.pure (FnOK.ftree SNp_ok mixed Tryz.func36 someCP (cpe a b c d (fun v => v = .int .i64 (cmpP (a.data.toList, b.data.toList) (c.data.toList, d.data.toList)))) ?_) rfl rfl h, Nat.le_refl _⟩
    unfold cmpP
    simp only
    rw [Lib.toList_data, Lib.toList_data]
    by_cases q : a.data.toList = c.data.toList
    · rw [if_pos q]
      refine pick_f (by rw [q, beq_self_eq_true]; rfl) ?_
      rw [← cmp_by]
    · rw [if_neg q]
      refine pick_t (by rw [beq_eq_false_iff_ne.2 q]; rfl) ?_
      rw [← cmp_by]
  · cases hs2
noncomputable def SSo : SC := ⟨idn, spCp, true, true⟩
theorem SSo_ok : SSo.cfg.OK Tryz.prog := spCp_ok.cfg
def ltB (x y : PB) : Bool := decide (cmpP (x.1.data.toList, x.2.data.toList) (y.1.data.toList, y.2.data.toList) < 0)
noncomputable def inT (x : PB) (K : List PB → Prop) : List PB → List PB → Prop
  | [], ps => K (ps.reverse ++ [x])
  | y :: t, ps => bif ltB x y then inT x K t (y :: ps) else K (ps.reverse ++ x :: y :: t)
noncomputable def srT (Q : Value → Option Obj → Prop) : List PB → List PB → Prop
  | [], acc => Q (.tuple ⟨[]⟩) (rowO (acc.reverse.flatMap pbC))
  | x :: r, acc => inT x (fun a => srT Q r a) acc []
theorem sre0 (Q : Value → Option Obj → Prop) : ffn Tryz.prog SSo [] 3000 [] Tryz.f35 [slc 0 0, cloS] (oP []) (fun v h => Q v (h.get 0)) = srT Q [] [] := by kernel_rfl
theorem sre1 (a0 b0 : ByteArray) (Q : Value → Option Obj → Prop) : ffn Tryz.prog SSo [] 3000 [] Tryz.f35 [slc 1 1, cloS] (oP [.string a0, .string b0]) (fun v h => Q v (h.get 0)) = srT Q [(a0, b0)] [] := by kernel_rfl
theorem sre2 (a0 b0 a1 b1 : ByteArray) (Q : Value → Option Obj → Prop) : ffn Tryz.prog SSo [] 3000 [] Tryz.f35 [slc 2 2, cloS] (oP [.string a0, .string b0, .string a1, .string b1]) (fun v h => Q v (h.get 0)) = srT Q [(a0, b0), (a1, b1)] [] := by kernel_rfl
theorem sre3 (a0 b0 a1 b1 a2 b2 : ByteArray) (Q : Value → Option Obj → Prop) : ffn Tryz.prog SSo [] 3000 [] Tryz.f35 [slc 3 3, cloS] (oP [.string a0, .string b0, .string a1, .string b1, .string a2, .string b2]) (fun v h => Q v (h.get 0)) = srT Q [(a0, b0), (a1, b1), (a2, b2)] [] := by kernel_rfl
theorem sre4 (a0 b0 a1 b1 a2 b2 a3 b3 : ByteArray) (Q : Value → Option Obj → Prop) : ffn Tryz.prog SSo [] 3000 [] Tryz.f35 [slc 4 4, cloS] (oP [.string a0, .string b0, .string a1, .string b1, .string a2, .string b2, .string a3, .string b3]) (fun v h => Q v (h.get 0)) = srT Q [(a0, b0), (a1, b1), (a2, b2), (a3, b3)] [] := by kernel_rfl
theorem someSF : Tryz.f35.body.isSome = true := by kernel_rfl
theorem inT_ok {x : PB} {K : List PB → Prop} : ∀ (acc ps : List PB), K (ps.reverse ++ insR ltB x acc) → inT x K acc ps
  | [], _, h => h
  | y :: t, ps, h => by
    show (bif ltB x y then inT x K t (y :: ps) else K (ps.reverse ++ x :: y :: t))
    unfold insR at h
    cases hl : ltB x y with
    | true =>
      rw [hl, if_pos rfl] at h
      refine inT_ok t (y :: ps) ?_
      rw [List.reverse_cons, List.append_assoc]
      exact h
    | false =>
      rw [hl, if_neg (by decide)] at h
      exact h
theorem srT_ok {Q : Value → Option Obj → Prop} : ∀ (r acc : List PB), Q (.tuple ⟨[]⟩) (rowO ((isr ltB acc r).flatMap pbC)) → srT Q r acc
  | [], _, h => h
  | x :: r, acc, h => inT_ok acc [] (srT_ok r (insR ltB x acc) h)
theorem lt_map (x y : Bs × Bs) : ltB (pbO x) (pbO y) = ltP x y := by
  show decide (cmpP ((bl x.1).data.toList, (bl x.2).data.toList) ((bl y.1).data.toList, (bl y.2).data.toList) < 0) = _
  rw [bl_list, bl_list, bl_list, bl_list]
  rfl
theorem ins_map (x : Bs × Bs) : ∀ r : List (Bs × Bs), insR ltB (pbO x) (r.map pbO) = (insR ltP x r).map pbO
  | [] => rfl
  | y :: r => by
    rw [List.map_cons, insR, insR, lt_map, ins_map x r]
    split <;> rfl
theorem isr_map : ∀ (r acc : List (Bs × Bs)), isr ltB (acc.map pbO) (r.map pbO) = (isr ltP acc r).map pbO
  | [], acc => by rw [List.map_nil, isr, isr, List.map_reverse]
  | x :: r, acc => by rw [List.map_cons, isr, isr, ins_map, isr_map r]
theorem sr_fn : ∀ (L : List (Bs × Bs)), L.length ≤ 4 → FnOK 1 Tryz.prog 35 ⟨[.slice (some ⟨0, 0, none⟩) L.length L.length, cloS]⟩ (oP (L.flatMap prC))
    (fun v g => v = .tuple ⟨[]⟩ ∧ g.get 0 = some (.cells ⟨(srtP L).flatMap prC⟩ 30 (0, 0)))
  | [], _ => by
    have e := sre0  (fun v o => v = .tuple ⟨[]⟩ ∧ o = some (.cells ⟨(srtP []).flatMap prC⟩ 30 (0, 0)))
    refine FnOK.ftree (p := 1) SSo_ok mixed Tryz.func35 someSF e (srT_ok _ [] ⟨rfl, ?_⟩)
    have hm := isr_map [] []
    show rowO ((isr ltB ([].map pbO) (([] : List (Bs × Bs)).map pbO)).flatMap pbC) = _
    rw [hm, pbC_map]
    rfl
  | [p0], _ => by
    have e := sre1 (bl p0.1) (bl p0.2) (fun v o => v = .tuple ⟨[]⟩ ∧ o = some (.cells ⟨(srtP [p0]).flatMap prC⟩ 30 (0, 0)))
    refine FnOK.ftree (p := 1) SSo_ok mixed Tryz.func35 someSF e (srT_ok _ [] ⟨rfl, ?_⟩)
    have hm := isr_map [p0] []
    show rowO ((isr ltB ([].map pbO) (([p0] : List (Bs × Bs)).map pbO)).flatMap pbC) = _
    rw [hm, pbC_map]
    rfl
  | [p0, p1], _ => by
    have e := sre2 (bl p0.1) (bl p0.2) (bl p1.1) (bl p1.2) (fun v o => v = .tuple ⟨[]⟩ ∧ o = some (.cells ⟨(srtP [p0, p1]).flatMap prC⟩ 30 (0, 0)))
    refine FnOK.ftree (p := 1) SSo_ok mixed Tryz.func35 someSF e (srT_ok _ [] ⟨rfl, ?_⟩)
    have hm := isr_map [p0, p1] []
    show rowO ((isr ltB ([].map pbO) (([p0, p1] : List (Bs × Bs)).map pbO)).flatMap pbC) = _
    rw [hm, pbC_map]
    rfl
  | [p0, p1, p2], _ => by
    have e := sre3 (bl p0.1) (bl p0.2) (bl p1.1) (bl p1.2) (bl p2.1) (bl p2.2) (fun v o => v = .tuple ⟨[]⟩ ∧ o = some (.cells ⟨(srtP [p0, p1, p2]).flatMap prC⟩ 30 (0, 0)))
    refine FnOK.ftree (p := 1) SSo_ok mixed Tryz.func35 someSF e (srT_ok _ [] ⟨rfl, ?_⟩)
    have hm := isr_map [p0, p1, p2] []
    show rowO ((isr ltB ([].map pbO) (([p0, p1, p2] : List (Bs × Bs)).map pbO)).flatMap pbC) = _
    rw [hm, pbC_map]
    rfl
  | [p0, p1, p2, p3], _ => by
    have e := sre4 (bl p0.1) (bl p0.2) (bl p1.1) (bl p1.2) (bl p2.1) (bl p2.2) (bl p3.1) (bl p3.2) (fun v o => v = .tuple ⟨[]⟩ ∧ o = some (.cells ⟨(srtP [p0, p1, p2, p3]).flatMap prC⟩ 30 (0, 0)))
    refine FnOK.ftree (p := 1) SSo_ok mixed Tryz.func35 someSF e (srT_ok _ [] ⟨rfl, ?_⟩)
    have hm := isr_map [p0, p1, p2, p3] []
    show rowO ((isr ltB ([].map pbO) (([p0, p1, p2, p3] : List (Bs × Bs)).map pbO)).flatMap pbC) = _
    rw [hm, pbC_map]
    rfl
  | _ :: _ :: _ :: _ :: _ :: _, h => absurd h (by simp)
/-- A function that changes one block of plain values, and hands back its slice. -/
theorem upd1 {f : FuncId} {cs cs' : List Value} {t : TypeId} {fr fr' : Nat × Nat} {n c k b : Nat} {rest : List Value} {H : AH}
    (hF : FnOK 1 Tryz.prog f ⟨.slice (some ⟨0, 0, none⟩) n c :: rest⟩ ⟨1, 1, [(0, .cells ⟨cs⟩ t fr)]⟩ (fun v g => v = .slice (some ⟨0, 0, none⟩) k k ∧ g.get 0 = some (.cells ⟨cs'⟩ t fr')))
    (hr : ren2s [(b, 0)] rest = some rest) (hp : ∀ x ∈ cs, p1 x = true) (hp' : ∀ x ∈ cs', p1 x = true) (hb : H.get b = some (.cells ⟨cs⟩ t fr)) (hlt : Nat.blt b H.next = true) :
    CallOK Tryz.prog f ⟨.slice (some ⟨b, 0, none⟩) n c :: rest⟩ H (.slice (some ⟨b, 0, none⟩) k k) (H.set b (.cells ⟨cs'⟩ t fr')) := by
  have hset : (H.set b (.cells ⟨cs'⟩ t fr')).get b = some (.cells ⟨cs'⟩ t fr') := look_setB_self hb
  have hne : ∀ a, a ≠ b → (H.set b (.cells ⟨cs'⟩ t fr')).get a = H.get a := fun a ha => look_setB_ne ha _ H.blocks
  refine FnOK.frame (r := [(b, 0)]) (q := [(0, b)]) (bl := [(0, .cells ⟨cs⟩ t fr)]) (bl' := [(0, .cells ⟨cs'⟩ t fr')]) (nx := 1) (lw := 1) (u := .slice (some ⟨0, 0, none⟩) k k) (small := .slice (some ⟨0, 0, none⟩) n c :: rest)
    (by simp [renOk, renB, invB, eqO]) (by simp [ren2s, ren2, ren1, ren0, renB, hr]) ?_ ?_ ?_ ?_ (by simp [ren2, ren1, ren0, renB]) ?_ ?_ (Nat.le_refl _) (Nat.min_le_left _ _) ?_
  · intro i o hi
    unfold Ev.look at hi
    obtain ⟨h1, h2⟩ := cond_some hi
    cases h2
    have := Nat.eq_of_beq_eq_true h1
    subst this
    exact ⟨b, _, true, by simp, hb, rfl, fun _ x hx => hp x (by simpa using hx)⟩
  · refine FnOK.weak1 (hF.mono ?_)
    rintro v g ⟨rfl, hg⟩
    refine ⟨_, _, Weak.norm [true] [(0, 0)] [0] 1 rfl rfl (by simp [renT, ren2, ren1, ren0, renB]) (bl := [(0, .cells ⟨cs'⟩ t fr')]) (by simp [renH, hg, renO]) ?_, rfl, rfl⟩
    intro a ha o ho
    simp only [List.mem_singleton] at ha
    subst ha
    rw [hg] at ho
    cases ho
    exact fun x hx => hp' x (by simpa using hx)
  · have hlt : Nat.blt b (H.set b (.cells ⟨cs'⟩ t fr')).next = true := hlt
    simp [renOk, renB, invB, eqO, hlt]
  · intro i a h
    simp only [List.mem_singleton, Prod.mk.injEq] at h
    obtain ⟨rfl, rfl⟩ := h
    exact .inl ⟨by simp, by rw [hb]; rfl⟩
  · intro a o2 ha
    by_cases hab : a = b
    · subst hab
      rw [hset] at ha
      cases ha
      exact .inr ⟨0, _, true, by simp, rfl, rfl, fun _ x hx => hp' x (by simpa using hx)⟩
    · rw [hne a hab] at ha
      exact .inl ⟨ha, fun i hi => by simp only [List.mem_singleton, Prod.mk.injEq] at hi; exact hab hi.1⟩
  · intro hids a o ha
    by_cases hab : a = b
    · subst hab
      exact hids a _ hb
    · rw [hne a hab] at ha
      exact hids a o ha
  · intro i _ hlow
    have hlow : i < min H.low b := hlow
    exact hne i (by omega)
/-- A function that changes one block of plain values, and hands back nothing. -/
theorem upd0 {f : FuncId} {cs cs' : List Value} {t : TypeId} {fr fr' : Nat × Nat} {n c b : Nat} {rest : List Value} {H : AH}
    (hF : FnOK 1 Tryz.prog f ⟨.slice (some ⟨0, 0, none⟩) n c :: rest⟩ ⟨1, 1, [(0, .cells ⟨cs⟩ t fr)]⟩ (fun v g => v = .tuple ⟨[]⟩ ∧ g.get 0 = some (.cells ⟨cs'⟩ t fr')))
    (hr : ren2s [(b, 0)] rest = some rest) (hp : ∀ x ∈ cs, p1 x = true) (hp' : ∀ x ∈ cs', p1 x = true) (hb : H.get b = some (.cells ⟨cs⟩ t fr)) (hlt : Nat.blt b H.next = true) :
    CallOK Tryz.prog f ⟨.slice (some ⟨b, 0, none⟩) n c :: rest⟩ H (.tuple ⟨[]⟩) (H.set b (.cells ⟨cs'⟩ t fr')) := by
  have hset : (H.set b (.cells ⟨cs'⟩ t fr')).get b = some (.cells ⟨cs'⟩ t fr') := look_setB_self hb
  have hne : ∀ a, a ≠ b → (H.set b (.cells ⟨cs'⟩ t fr')).get a = H.get a := fun a ha => look_setB_ne ha _ H.blocks
  refine FnOK.frame (r := [(b, 0)]) (q := [(0, b)]) (bl := [(0, .cells ⟨cs⟩ t fr)]) (bl' := [(0, .cells ⟨cs'⟩ t fr')]) (nx := 1) (lw := 1) (u := .tuple ⟨[]⟩) (small := .slice (some ⟨0, 0, none⟩) n c :: rest)
    (by simp [renOk, renB, invB, eqO]) (by simp [ren2s, ren2, ren1, ren0, renB, hr]) ?_ ?_ ?_ ?_ rfl ?_ ?_ (Nat.le_refl _) (Nat.min_le_left _ _) ?_
  · intro i o hi
    unfold Ev.look at hi
    obtain ⟨h1, h2⟩ := cond_some hi
    cases h2
    have := Nat.eq_of_beq_eq_true h1
    subst this
    exact ⟨b, _, true, by simp, hb, rfl, fun _ x hx => hp x (by simpa using hx)⟩
  · refine FnOK.weak1 (hF.mono ?_)
    rintro v g ⟨rfl, hg⟩
    refine ⟨_, _, Weak.norm [true] [(0, 0)] [0] 1 rfl rfl rfl (bl := [(0, .cells ⟨cs'⟩ t fr')]) (by simp [renH, hg, renO]) ?_, rfl, rfl⟩
    intro a ha o ho
    simp only [List.mem_singleton] at ha
    subst ha
    rw [hg] at ho
    cases ho
    exact fun x hx => hp' x (by simpa using hx)
  · have hlt : Nat.blt b (H.set b (.cells ⟨cs'⟩ t fr')).next = true := hlt
    simp [renOk, renB, invB, eqO, hlt]
  · intro i a h
    simp only [List.mem_singleton, Prod.mk.injEq] at h
    obtain ⟨rfl, rfl⟩ := h
    exact .inl ⟨by simp, by rw [hb]; rfl⟩
  · intro a o2 ha
    by_cases hab : a = b
    · subst hab
      rw [hset] at ha
      cases ha
      exact .inr ⟨0, _, true, by simp, rfl, rfl, fun _ x hx => hp' x (by simpa using hx)⟩
    · rw [hne a hab] at ha
      exact .inl ⟨ha, fun i hi => by simp only [List.mem_singleton, Prod.mk.injEq] at hi; exact hab hi.1⟩
  · intro hids a o ha
    by_cases hab : a = b
    · subst hab
      exact hids a _ hb
    · rw [hne a hab] at ha
      exact hids a o ha
  · intro i _ hlow
    have hlow : i < min H.low b := hlow
    exact hne i (by omega)
/-- The pairs that cells tell. -/
def unC : List Value → List (Bs × Bs)
  | a :: b :: r => ((toStr a).data.toList, (toStr b).data.toList) :: unC r
  | _ => []
theorem unC_pr : ∀ L : List (Bs × Bs), unC (L.flatMap prC) = L
  | [] => rfl
  | p :: l => by
    rw [List.flatMap_cons]
    show ((bl p.1).data.toList, (bl p.2).data.toList) :: unC (l.flatMap prC) = _
    rw [bl_list, bl_list, unC_pr l]
open Classical in
noncomputable def okC (n : Nat) (cs : List Value) : Bool := @decide (∃ L : List (Bs × Bs), L.length = n ∧ cs = L.flatMap prC) (Classical.propDecidable _)
open Classical in
theorem okC_iff {n : Nat} {cs : List Value} : okC n cs = true ↔ ∃ L : List (Bs × Bs), L.length = n ∧ cs = L.flatMap prC := by unfold okC; exact decide_eq_true_iff
noncomputable def spDf (g : FuncId) (args : Array Value) (h : AH) : Option (Bool × Value × AH) :=
  cond (Nat.beq g 33) (match args with
    | ⟨[.slice (some ⟨b, 0, none⟩) n m, .func (.func c) ⟨[]⟩ ⟨[]⟩]⟩ => match h.get b with
      | some (.cells ⟨cs⟩ t (0, 0)) => some (Nat.beq t 30 && Nat.beq c 34 && Nat.beq m n && okC n cs && Nat.ble n 4 && Nat.ble 1 n && Nat.blt b h.next,
        .slice (some ⟨b, 0, none⟩) (dl (unC cs)).length (dl (unC cs)).length, h.set b (.cells ⟨(dl (unC cs)).flatMap prC⟩ 30 (0, 0)))
      | _ => none
    | _ => none) none
noncomputable def spSf (g : FuncId) (args : Array Value) (h : AH) : Option (Bool × Value × AH) :=
  cond (Nat.beq g 35) (match args with
    | ⟨[.slice (some ⟨b, 0, none⟩) n m, .func (.func c) ⟨[]⟩ ⟨[]⟩]⟩ => match h.get b with
      | some (.cells ⟨cs⟩ t (0, 0)) => some (Nat.beq t 30 && Nat.beq c 36 && Nat.beq m n && okC n cs && Nat.ble n 4 && Nat.blt b h.next,
        .tuple ⟨[]⟩, h.set b (.cells ⟨(srtP (unC cs)).flatMap prC⟩ 30 (0, 0)))
      | _ => none
    | _ => none) none
theorem spDf_ok : SpOK spDf := by
  intro f args h v h' hs
  unfold spDf at hs
  obtain ⟨hf, hs2⟩ := cond_some hs
  clear hs
  have := Nat.eq_of_beq_eq_true hf
  subst this
  split at hs2
  · split at hs2
    · rename_i b n m c _ cs t hg
      injection hs2 with hs
      injection hs with hb hs
      injection hs with hv hh
      subst hv hh
      simp only [Bool.and_eq_true] at hb
      obtain ⟨⟨⟨⟨⟨⟨b1, b2⟩, b3⟩, b4⟩, b5⟩, b6⟩, b7⟩ := hb
      have b1 := Nat.eq_of_beq_eq_true b1
      have b2 := Nat.eq_of_beq_eq_true b2
      have b3 := Nat.eq_of_beq_eq_true b3
      obtain ⟨L, rfl, rfl⟩ := okC_iff.1 b4
      have b5 := Nat.le_of_ble_eq_true b5
      have b6 := Nat.le_of_ble_eq_true b6
      subst b1 b2 b3
      rw [unC_pr]
      exact ⟨upd1 (df_fn (by intro e; rw [e] at b6; simp at b6) b5) rfl p1_prC p1_prC hg b7, Nat.le_refl _⟩
    · cases hs2
  · cases hs2
theorem spSf_ok : SpOK spSf := by
  intro f args h v h' hs
  unfold spSf at hs
  obtain ⟨hf, hs2⟩ := cond_some hs
  clear hs
  have := Nat.eq_of_beq_eq_true hf
  subst this
  split at hs2
  · split at hs2
    · rename_i b n m c _ cs t hg
      injection hs2 with hs
      injection hs with hb hs
      injection hs with hv hh
      subst hv hh
      simp only [Bool.and_eq_true] at hb
      obtain ⟨⟨⟨⟨⟨b1, b2⟩, b3⟩, b4⟩, b5⟩, b7⟩ := hb
      have b1 := Nat.eq_of_beq_eq_true b1
      have b2 := Nat.eq_of_beq_eq_true b2
      have b3 := Nat.eq_of_beq_eq_true b3
      obtain ⟨L, rfl, rfl⟩ := okC_iff.1 b4
      have b5 := Nat.le_of_ble_eq_true b5
      subst b1 b2 b3
      rw [unC_pr]
      exact ⟨upd0 (sr_fn L b5) rfl p1_prC p1_prC hg b7, Nat.le_refl _⟩
    · cases hs2
  · cases hs2
end Go.Proofs.YtnaeehnkabojdaaGreatDoor
