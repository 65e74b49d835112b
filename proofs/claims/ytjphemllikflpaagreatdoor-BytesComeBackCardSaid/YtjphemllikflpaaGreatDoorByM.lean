/-
  Bytes: DeleteFunc on rows of headers; Values, told.
-/
import Derived.Test.YtjphemllikflpaaGreatDoorByL
namespace Go.Proofs.YtjphemllikflpaaGreatDoor
open Go.Ev Go.RowKit RecLaw PathLaw QueryLaw BytesLaw

def pbC (p : PB) : List Value := [.string p.1, .string p.2]
theorem pbC_map : ∀ L : List (Bs × Bs), (L.map pbO).flatMap pbC = L.flatMap prC
  | [] => rfl
  | p :: l => by rw [List.map_cons, List.flatMap_cons, List.flatMap_cons, pbC_map l]; rfl
theorem pbC_len : ∀ D : List PB, (D.flatMap pbC).length = D.length * 2
  | [] => rfl
  | p :: l => by
    rw [List.flatMap_cons, List.length_append, pbC_len l, List.length_cons]
    show 2 + _ = _
    omega
def zs : Nat → List Value
  | 0 => []
  | n + 1 => .string ⟨#[]⟩ :: .string ⟨#[]⟩ :: zs n
def slc (k n : Nat) : Value := .slice (some ⟨0, 0, none⟩) k n
def rowO (cs : List Value) : Option Obj := some (.cells ⟨cs⟩ 93 (0, 0))
noncomputable def dhB (Q : Value → Option Obj → Prop) (n : Nat) : List PB → List PB → Prop
  | [], K => Q (slc K.length n) (rowO (K.flatMap pbC ++ zs (n - K.length)))
  | p :: r, K => bif inN p.1 then bif !frB p.1.data.toList then dhB Q n r (K ++ [p]) else dhB Q n r K else False
noncomputable def dhA (Q : Value → Option Obj → Prop) (n : Nat) : List PB → List PB → Prop
  | [], K => Q (slc n n) (rowO (K.flatMap pbC))
  | p :: r, K => bif inN p.1 then bif frB p.1.data.toList then dhB Q n r K else dhA Q n r (K ++ [p]) else False
noncomputable def SDh : SC := ⟨idn, spFr, true, true⟩
theorem SDh_ok : SDh.cfg.OK Tryz.prog := spFr_ok.cfg
def cloI : Value := .func (.func 66) ⟨[]⟩ ⟨[]⟩
def oH (cs : List Value) : AH := ⟨1, 1, [(0, .cells ⟨cs⟩ 93 (0, 0))]⟩
theorem dhe1 (a0 b0 : ByteArray) (Q : Value → Option Obj → Prop) : ffn Tryz.prog SDh [] 3000 [] Tryz.f67 [slc 1 1, cloI] (oH [.string a0, .string b0]) (fun v h => Q v (h.get 0)) = dhA Q 1 [(a0, b0)] [] := by kernel_rfl
theorem dhe2 (a0 b0 a1 b1 : ByteArray) (Q : Value → Option Obj → Prop) : ffn Tryz.prog SDh [] 3000 [] Tryz.f67 [slc 2 2, cloI] (oH [.string a0, .string b0, .string a1, .string b1]) (fun v h => Q v (h.get 0)) = dhA Q 2 [(a0, b0), (a1, b1)] [] := by kernel_rfl
theorem dhe3 (a0 b0 a1 b1 a2 b2 : ByteArray) (Q : Value → Option Obj → Prop) : ffn Tryz.prog SDh [] 3000 [] Tryz.f67 [slc 3 3, cloI] (oH [.string a0, .string b0, .string a1, .string b1, .string a2, .string b2]) (fun v h => Q v (h.get 0)) = dhA Q 3 [(a0, b0), (a1, b1), (a2, b2)] [] := by kernel_rfl
theorem dhe4 (a0 b0 a1 b1 a2 b2 a3 b3 : ByteArray) (Q : Value → Option Obj → Prop) : ffn Tryz.prog SDh [] 3000 [] Tryz.f67 [slc 4 4, cloI] (oH [.string a0, .string b0, .string a1, .string b1, .string a2, .string b2, .string a3, .string b3]) (fun v h => Q v (h.get 0)) = dhA Q 4 [(a0, b0), (a1, b1), (a2, b2), (a3, b3)] [] := by kernel_rfl
theorem dhe5 (a0 b0 a1 b1 a2 b2 a3 b3 a4 b4 : ByteArray) (Q : Value → Option Obj → Prop) : ffn Tryz.prog SDh [] 3000 [] Tryz.f67 [slc 5 5, cloI] (oH [.string a0, .string b0, .string a1, .string b1, .string a2, .string b2, .string a3, .string b3, .string a4, .string b4]) (fun v h => Q v (h.get 0)) = dhA Q 5 [(a0, b0), (a1, b1), (a2, b2), (a3, b3), (a4, b4)] [] := by kernel_rfl
theorem dhe6 (a0 b0 a1 b1 a2 b2 a3 b3 a4 b4 a5 b5 : ByteArray) (Q : Value → Option Obj → Prop) : ffn Tryz.prog SDh [] 3000 [] Tryz.f67 [slc 6 6, cloI] (oH [.string a0, .string b0, .string a1, .string b1, .string a2, .string b2, .string a3, .string b3, .string a4, .string b4, .string a5, .string b5]) (fun v h => Q v (h.get 0)) = dhA Q 6 [(a0, b0), (a1, b1), (a2, b2), (a3, b3), (a4, b4), (a5, b5)] [] := by kernel_rfl
theorem someDFH : Tryz.f67.body.isSome = true := by kernel_rfl
def nfB (L : List (Bs × Bs)) : List (Bs × Bs) := L.filter fun p => !frB p.1
theorem zs_len : ∀ n, (zs n).length = n * 2
  | 0 => rfl
  | n + 1 => by
    show (zs n).length + 1 + 1 = _
    rw [zs_len n]; omega
theorem nf_len (L : List (Bs × Bs)) : (nfB L).length ≤ L.length := List.length_filter_le _ _
theorem dhB_ok {Q : Value → Option Obj → Prop} {n : Nat} : ∀ (r K : List (Bs × Bs)), (∀ p ∈ r, p.1 ∈ allS) → K.length + r.length ≤ n → (∀ cs, cs.length = n * 2 → cs.take ((K ++ nfB r).length * 2) = (K ++ nfB r).flatMap prC → Q (slc (K ++ nfB r).length n) (rowO cs)) → dhB Q n (r.map pbO) (K.map pbO)
  | [], K, _, h1, hQ => by
    rw [show nfB [] = [] from rfl, List.append_nil] at hQ
    rw [List.length_nil] at h1
    show Q (slc (K.map pbO).length n) (rowO ((K.map pbO).flatMap pbC ++ zs (n - (K.map pbO).length)))
    rw [pbC_map, List.length_map]
    refine hQ _ ?_ ?_
    · rw [List.length_append, prC_len, zs_len]; omega
    · rw [List.take_append_of_le_length (by rw [prC_len]; exact Nat.le_refl _), List.take_of_length_le (by rw [prC_len]; exact Nat.le_refl _)]
  | p :: r, K, ha, h1, hQ => by
    rw [List.length_cons] at h1
    have hp := ha p (by simp)
    have hr := fun q hq => ha q (List.mem_cons_of_mem p hq)
    show (bif inN (bl p.1) then bif !frB (bl p.1).data.toList then dhB Q n (r.map pbO) (K.map pbO ++ [pbO p]) else dhB Q n (r.map pbO) (K.map pbO) else False)
    rw [bl_list]
    refine need_mk (inN_bl hp) ?_
    unfold nfB at hQ
    rw [List.filter_cons] at hQ
    cases hz : frB p.1 with
    | true =>
      rw [hz] at hQ
      exact pick_f rfl (dhB_ok r K hr (by omega) hQ)
    | false =>
      rw [hz] at hQ
      have e : K.map pbO ++ [pbO p] = (K ++ [p]).map pbO := by simp
      rw [e]
      refine pick_t rfl (dhB_ok r (K ++ [p]) hr (by simp; omega) ?_)
      rw [List.append_assoc]
      exact hQ
theorem dhA_ok {Q : Value → Option Obj → Prop} {n : Nat} : ∀ (r K : List (Bs × Bs)), (∀ p ∈ r, p.1 ∈ allS) → K.length + r.length = n → (∀ cs, cs.length = n * 2 → cs.take ((K ++ nfB r).length * 2) = (K ++ nfB r).flatMap prC → Q (slc (K ++ nfB r).length n) (rowO cs)) → dhA Q n (r.map pbO) (K.map pbO)
  | [], K, _, h1, hQ => by
    rw [show nfB [] = [] from rfl, List.append_nil] at hQ
    rw [List.length_nil, Nat.add_zero] at h1
    subst h1
    show Q (slc K.length K.length) (rowO ((K.map pbO).flatMap pbC))
    rw [pbC_map]
    exact hQ _ (prC_len K) (List.take_of_length_le (by rw [prC_len]; exact Nat.le_refl _))
  | p :: r, K, ha, h1, hQ => by
    rw [List.length_cons] at h1
    have hp := ha p (by simp)
    have hr := fun q hq => ha q (List.mem_cons_of_mem p hq)
    show (bif inN (bl p.1) then bif frB (bl p.1).data.toList then dhB Q n (r.map pbO) (K.map pbO) else dhA Q n (r.map pbO) (K.map pbO ++ [pbO p]) else False)
    rw [bl_list]
    refine need_mk (inN_bl hp) ?_
    unfold nfB at hQ
    rw [List.filter_cons] at hQ
    cases hz : frB p.1 with
    | true =>
      rw [hz] at hQ
      exact pick_t rfl (dhB_ok r K hr (by omega) hQ)
    | false =>
      rw [hz] at hQ
      have e : K.map pbO ++ [pbO p] = (K ++ [p]).map pbO := by simp
      rw [e]
      refine pick_f rfl (dhA_ok r (K ++ [p]) hr (by simp; omega) ?_)
      rw [List.append_assoc]
      exact hQ
theorem dh_row : ∀ (L : List (Bs × Bs)), L ≠ [] → L.length ≤ 6 → (∀ p ∈ L, p.1 ∈ allS) → FnOK 1 Tryz.prog 67 ⟨[slc L.length L.length, cloI]⟩ (oH (L.flatMap prC))
    (fun v g => v = slc (nfB L).length L.length ∧ ∃ cs : List Value, g.get 0 = rowO cs ∧ cs.length = L.length * 2 ∧ cs.take ((nfB L).length * 2) = (nfB L).flatMap prC)
  | [], h, _, _ => absurd rfl h
  | [p0], _, _, ha => FnOK.ftree (p := 1) SDh_ok mixed Tryz.func67 someDFH (dhe1 (bl p0.1) (bl p0.2) (fun v o => v = slc (nfB [p0]).length 1 ∧ ∃ cs : List Value, o = rowO cs ∧ cs.length = 1 * 2 ∧ cs.take ((nfB [p0]).length * 2) = (nfB [p0]).flatMap prC)) (dhA_ok [p0] [] ha rfl fun cs h1 h2 => ⟨rfl, cs, rfl, h1, h2⟩)
  | [p0, p1], _, _, ha => FnOK.ftree (p := 1) SDh_ok mixed Tryz.func67 someDFH (dhe2 (bl p0.1) (bl p0.2) (bl p1.1) (bl p1.2) (fun v o => v = slc (nfB [p0, p1]).length 2 ∧ ∃ cs : List Value, o = rowO cs ∧ cs.length = 2 * 2 ∧ cs.take ((nfB [p0, p1]).length * 2) = (nfB [p0, p1]).flatMap prC)) (dhA_ok [p0, p1] [] ha rfl fun cs h1 h2 => ⟨rfl, cs, rfl, h1, h2⟩)
  | [p0, p1, p2], _, _, ha => FnOK.ftree (p := 1) SDh_ok mixed Tryz.func67 someDFH (dhe3 (bl p0.1) (bl p0.2) (bl p1.1) (bl p1.2) (bl p2.1) (bl p2.2) (fun v o => v = slc (nfB [p0, p1, p2]).length 3 ∧ ∃ cs : List Value, o = rowO cs ∧ cs.length = 3 * 2 ∧ cs.take ((nfB [p0, p1, p2]).length * 2) = (nfB [p0, p1, p2]).flatMap prC)) (dhA_ok [p0, p1, p2] [] ha rfl fun cs h1 h2 => ⟨rfl, cs, rfl, h1, h2⟩)
  | [p0, p1, p2, p3], _, _, ha => FnOK.ftree (p := 1) SDh_ok mixed Tryz.func67 someDFH (dhe4 (bl p0.1) (bl p0.2) (bl p1.1) (bl p1.2) (bl p2.1) (bl p2.2) (bl p3.1) (bl p3.2) (fun v o => v = slc (nfB [p0, p1, p2, p3]).length 4 ∧ ∃ cs : List Value, o = rowO cs ∧ cs.length = 4 * 2 ∧ cs.take ((nfB [p0, p1, p2, p3]).length * 2) = (nfB [p0, p1, p2, p3]).flatMap prC)) (dhA_ok [p0, p1, p2, p3] [] ha rfl fun cs h1 h2 => ⟨rfl, cs, rfl, h1, h2⟩)
  | [p0, p1, p2, p3, p4], _, _, ha => FnOK.ftree (p := 1) SDh_ok mixed Tryz.func67 someDFH (dhe5 (bl p0.1) (bl p0.2) (bl p1.1) (bl p1.2) (bl p2.1) (bl p2.2) (bl p3.1) (bl p3.2) (bl p4.1) (bl p4.2) (fun v o => v = slc (nfB [p0, p1, p2, p3, p4]).length 5 ∧ ∃ cs : List Value, o = rowO cs ∧ cs.length = 5 * 2 ∧ cs.take ((nfB [p0, p1, p2, p3, p4]).length * 2) = (nfB [p0, p1, p2, p3, p4]).flatMap prC)) (dhA_ok [p0, p1, p2, p3, p4] [] ha rfl fun cs h1 h2 => ⟨rfl, cs, rfl, h1, h2⟩)
  | [p0, p1, p2, p3, p4, p5], _, _, ha => FnOK.ftree (p := 1) SDh_ok mixed Tryz.func67 someDFH (dhe6 (bl p0.1) (bl p0.2) (bl p1.1) (bl p1.2) (bl p2.1) (bl p2.2) (bl p3.1) (bl p3.2) (bl p4.1) (bl p4.2) (bl p5.1) (bl p5.2) (fun v o => v = slc (nfB [p0, p1, p2, p3, p4, p5]).length 6 ∧ ∃ cs : List Value, o = rowO cs ∧ cs.length = 6 * 2 ∧ cs.take ((nfB [p0, p1, p2, p3, p4, p5]).length * 2) = (nfB [p0, p1, p2, p3, p4, p5]).flatMap prC)) (dhA_ok [p0, p1, p2, p3, p4, p5] [] ha rfl fun cs h1 h2 => ⟨rfl, cs, rfl, h1, h2⟩)
  | _ :: _ :: _ :: _ :: _ :: _ :: _ :: _, _, h, _ => absurd h (by simp)
theorem widH : width Tryz.prog 93 = 2 := by kernel_rfl
theorem dh_fn {L : List (Bs × Bs)} (h1 : L ≠ []) (h2 : L.length ≤ 6) (h3 : ∀ p ∈ L, p.1 ∈ allS) : FnOK 1 Tryz.prog 67 ⟨[slc L.length L.length, cloI]⟩ (oH (L.flatMap prC))
    (fun v g => v = .slice (some ⟨0, 0, none⟩) (nfB L).length (nfB L).length ∧ g.get 0 = some (.cells ⟨(nfB L).flatMap prC⟩ 93 (0, 0))) := by
  refine FnOK.weak1 ((dh_row L h1 h2 h3).mono ?_)
  rintro v g ⟨rfl, cs, hg, hl, ht⟩
  have hle := nf_len L
  have hW := Weak.cut (p := 1) (P := Tryz.prog) (τ := #[slc (nfB L).length L.length]) (τ2 := #[slc (nfB L).length (nfB L).length]) (g := 0) (h := g) (n := (nfB L).length) (c := L.length) (k := 2) hg widH (by omega) hle rfl (fun i => by
    cases i with
    | zero => exact .inr ⟨rfl, rfl⟩
    | succ i => exact .inl (by simp))
  rw [ht] at hW
  exact ⟨_, _, hW, rfl, look_setB_self hg⟩
/-- A function that changes one block of plain values, and hands back its slice. -/
theorem upd1 {f : FuncId} {cs cs' : List Value} {t : TypeId} {fr fr' : Nat × Nat} {n c k b : Nat} {rest : List Value} {H : AH}
    (hF : FnOK 1 Tryz.prog f ⟨.slice (some ⟨0, 0, none⟩) n c :: rest⟩ ⟨1, 1, [(0, .cells ⟨cs⟩ t fr)]⟩ (fun v g => v = .slice (some ⟨0, 0, none⟩) k k ∧ g.get 0 = some (.cells ⟨cs'⟩ t fr')))
    (hr : ren2s [(b, 0)] rest = some rest) (hp : ∀ x ∈ cs, p1 x = true) (hp' : ∀ x ∈ cs', p1 x = true) (hb : H.get b = some (.cells ⟨cs⟩ t fr)) (hlt : Nat.blt b H.next = true) :
    CallOK Tryz.prog f ⟨.slice (some ⟨b, 0, none⟩) n c :: rest⟩ H (.slice (some ⟨b, 0, none⟩) k k) (H.set b (.cells ⟨cs'⟩ t fr')) := by
  have hset : (H.set b (.cells ⟨cs'⟩ t fr')).get b = some (.cells ⟨cs'⟩ t fr') := look_setB_self hb
  have hne : ∀ a, a ≠ b → (H.set b (.cells ⟨cs'⟩ t fr')).get a = H.get a := fun a ha => look_setB_ne ha _ H.blocks
  refine FnOK.frame (r := [(b, 0)]) (q := [(0, b)]) (bl := [(0, .cells ⟨cs⟩ t fr)]) (bl' := [(0, .cells ⟨cs'⟩ t fr')]) (nx := 1) (lw := 1) (u := .slice (some ⟨0, 0, none⟩) k k) (small := .slice (some ⟨0, 0, none⟩) n c :: rest)
    (by simp [renOk, renB, invB, eqO]) (by simp [ren2s, ren2, ren1, ren0, renB, hr]) ?_ ?_ ?_ ?_ (by simp [ren2, ren1, ren0, renB]) ?_ ?_ (Nat.le_refl _) (Nat.min_le_left _ _) ?_
  · intro i o hi
    unfold Ev.look at hi
    obtain ⟨h1, h2⟩ := cond_some hi
    cases h2
    have := Nat.eq_of_beq_eq_true h1
    subst this
    exact ⟨b, _, true, by simp, hb, rfl, fun _ x hx => hp x (by simpa using hx)⟩
  · refine FnOK.weak1 (hF.mono ?_)
    rintro v g ⟨rfl, hg⟩
    refine ⟨_, _, Weak.norm [true] [(0, 0)] [0] 1 rfl rfl (by simp [renT, ren2, ren1, ren0, renB]) (bl := [(0, .cells ⟨cs'⟩ t fr')]) (by simp [renH, hg, renO]) ?_, rfl, rfl⟩
    intro a ha o ho
    simp only [List.mem_singleton] at ha
    subst ha
    rw [hg] at ho
    cases ho
    exact fun x hx => hp' x (by simpa using hx)
  · have hlt : Nat.blt b (H.set b (.cells ⟨cs'⟩ t fr')).next = true := hlt
    simp [renOk, renB, invB, eqO, hlt]
  · intro i a h
    simp only [List.mem_singleton, Prod.mk.injEq] at h
    obtain ⟨rfl, rfl⟩ := h
    exact .inl ⟨by simp, by rw [hb]; rfl⟩
  · intro a o2 ha
    by_cases hab : a = b
    · subst hab
      rw [hset] at ha
      cases ha
      exact .inr ⟨0, _, true, by simp, rfl, rfl, fun _ x hx => hp' x (by simpa using hx)⟩
    · rw [hne a hab] at ha
      exact .inl ⟨ha, fun i hi => by simp only [List.mem_singleton, Prod.mk.injEq] at hi; exact hab hi.1⟩
  · intro hids a o ha
    by_cases hab : a = b
    · subst hab
      exact hids a _ hb
    · rw [hne a hab] at ha
      exact hids a o ha
  · intro i _ hlow
    have hlow : i < min H.low b := hlow
    exact hne i (by omega)
/-- The pairs that cells tell. -/
def unC : List Value → List (Bs × Bs)
  | a :: b :: r => ((toStr a).data.toList, (toStr b).data.toList) :: unC r
  | _ => []
theorem unC_pr : ∀ L : List (Bs × Bs), unC (L.flatMap prC) = L
  | [] => rfl
  | p :: l => by
    rw [List.flatMap_cons]
    show ((bl p.1).data.toList, (bl p.2).data.toList) :: unC (l.flatMap prC) = _
    rw [bl_list, bl_list, unC_pr l]
def HdN (L : List (Bs × Bs)) : Prop := L ≠ [] ∧ L.length ≤ 6 ∧ ∀ p ∈ L, p.1 ∈ allS
open Classical in
noncomputable def okC (n : Nat) (cs : List Value) : Bool := @decide (∃ L : List (Bs × Bs), HdN L ∧ L.length = n ∧ cs = L.flatMap prC) (Classical.propDecidable _)
open Classical in
theorem okC_iff {n : Nat} {cs : List Value} : okC n cs = true ↔ ∃ L : List (Bs × Bs), HdN L ∧ L.length = n ∧ cs = L.flatMap prC := by unfold okC; exact @decide_eq_true_iff _ (Classical.propDecidable _)
noncomputable def spDh (g : FuncId) (args : Array Value) (h : AH) : Option (Bool × Value × AH) :=
  cond (Nat.beq g 67) (match args with
    | ⟨[.slice (some ⟨b, 0, none⟩) n m, .func (.func c) ⟨[]⟩ ⟨[]⟩]⟩ => match h.get b with
      | some (.cells ⟨cs⟩ t (0, 0)) => some (Nat.beq t 93 && Nat.beq c 66 && Nat.beq m n && okC n cs && Nat.blt b h.next,
        .slice (some ⟨b, 0, none⟩) (nfB (unC cs)).length (nfB (unC cs)).length, h.set b (.cells ⟨(nfB (unC cs)).flatMap prC⟩ 93 (0, 0)))
      | _ => none
    | _ => none) none
theorem spDh_ok : SpOK spDh := by
  intro f args h v h' hs
  unfold spDh at hs
  obtain ⟨hf, hs2⟩ := cond_some hs
  clear hs
  have := Nat.eq_of_beq_eq_true hf
  subst this
  split at hs2
  · split at hs2
    · rename_i b n m c _ cs t hg
      injection hs2 with hs
      injection hs with hb hs
      injection hs with hv hh
      subst hv hh
      simp only [Bool.and_eq_true] at hb
      obtain ⟨⟨⟨⟨b1, b2⟩, b3⟩, b4⟩, b7⟩ := hb
      have b1 := Nat.eq_of_beq_eq_true b1
      have b2 := Nat.eq_of_beq_eq_true b2
      have b3 := Nat.eq_of_beq_eq_true b3
      obtain ⟨L, ⟨c1, c2, c3⟩, rfl, rfl⟩ := okC_iff.1 b4
      subst b1 b2 b3
      rw [unC_pr]
      exact ⟨upd1 (dh_fn c1 c2 c3) rfl p1_prC p1_prC hg b7, Nat.le_refl _⟩
    · cases hs2
  · cases hs2
theorem nf_all {L : List (Bs × Bs)} (h : ∀ p ∈ L, p.1 ∈ allS) : ∀ p ∈ nfB L, p.1 ∈ allS := fun p hp => h p (List.mem_filter.1 hp).1

/-! Values, told -/
def ansV (ho cl : List Value) (k : ByteArray) : List Value := cond (Nat.beq k.size 4) ho (cond (Nat.beq k.size 14) cl [])
open Classical in
noncomputable def okVl (vs : List Value) (k : ByteArray) (ans : List Value) : Bool := @decide (∃ L : List (Bs × Bs), HdN L ∧ vs = L.map prV ∧ k.data.toList ∈ askS ∧ ans = (valB k.data.toList L).map strV) (Classical.propDecidable _)
open Classical in
theorem okVl_iff {vs : List Value} {k : ByteArray} {ans : List Value} : okVl vs k ans = true ↔ ∃ L : List (Bs × Bs), HdN L ∧ vs = L.map prV ∧ k.data.toList ∈ askS ∧ ans = (valB k.data.toList L).map strV := by unfold okVl; exact @decide_eq_true_iff _ (Classical.propDecidable _)
noncomputable def spVl (ho cl : List Value) (f : FuncId) (args : Array Value) (h : AH) : Option (Bool × Value × AH) :=
  cond (Nat.beq f 39) (match args with
    | ⟨[.func (.yield 0) ⟨vs⟩ ⟨[]⟩, .string k]⟩ => some (okVl vs k (ansV ho cl k), fz ⟨ansV ho cl k⟩, h)
    | _ => none) none
theorem spVl_ok (ho cl : List Value) : SpOK (spVl ho cl) := by
  intro f args h v h' hs
  unfold spVl at hs
  obtain ⟨hf, hs2⟩ := cond_some hs
  clear hs
  have := Nat.eq_of_beq_eq_true hf
  subst this
  split at hs2
  · injection hs2 with hs
    injection hs with hb hs
    injection hs with hv hh
    subst hv hh
    rename_i vs k
    obtain ⟨L, ⟨c1, c2, c3⟩, rfl, hk, ha⟩ := okVl_iff.1 hb
    have := va_fn hk L c1 c2 c3
    rw [bl_self] at this
    rw [ha]
    exact ⟨FnOK.pure this rfl rfl h, Nat.le_refl _⟩
  · cases hs2
end Go.Proofs.YtjphemllikflpaaGreatDoor
