/-
  Bytes: requests and responses that are written.
-/
import Derived.Test.YtjphemllikflpaaGreatDoorByQ
namespace Go.Proofs.YtjphemllikflpaaGreatDoor
open Go.Ev Go.RowKit RecLaw PathLaw QueryLaw BytesLaw

noncomputable def nmI (s : ByteArray) : Bool := nmS.contains s.data.toList
noncomputable def spNf (f : FuncId) (args : Array Value) (h : AH) : Option (Bool × Value × AH) :=
  cond (Nat.beq f 66) (match args with
    | ⟨[.agg ⟨[.string a, .string x]⟩]⟩ => some (nmI a, .bool false, h)
    | _ => none) none
theorem spNf_ok : SpOK spNf := by
  intro f args h v h' hs
  unfold spNf at hs
  obtain ⟨hf, hs2⟩ := cond_some hs
  clear hs
  have := Nat.eq_of_beq_eq_true hf
  subst this
  split at hs2
  · injection hs2 with hs
    injection hs with hb hs
    injection hs with hv hh
    subst hv hh
    rename_i a x
    have hm : a.data.toList ∈ nmS := by simpa [nmI] using hb
    have q := nm_ok _ hm
    have := fr_fn (a := a.data.toList) q.1 x
    rw [bl_self, q.2.2.2.1] at this
    exact ⟨FnOK.pure this rfl rfl h, Nat.le_refl _⟩
  · cases hs2
def crB : ByteArray := ⟨#[13, 10]⟩
def hoB : ByteArray := ⟨#[104, 111, 115, 116]⟩
def hsB : ByteArray := ⟨#[32, 72, 84, 84, 80, 47, 49, 46, 49, 13, 10, 104, 111, 115, 116, 58, 32]⟩
def clB : ByteArray := ⟨#[99, 111, 110, 116, 101, 110, 116, 45, 108, 101, 110, 103, 116, 104, 58, 32]⟩
/-! a Builder's bytes, told -/
theorem setB_same {i : Nat} {o : Obj} : ∀ {l : List (Nat × Obj)}, Ev.look i l = some o → Ev.setB i o l = l
  | [], _ => rfl
  | (j, q) :: l, h => by
    unfold Ev.look at h
    unfold Ev.setB
    cases hj : Nat.beq j i with
    | true =>
      rw [hj] at h
      have h : some q = some o := h
      rw [Option.some.inj h]
      rfl
    | false =>
      rw [hj] at h
      show (j, q) :: Ev.setB i o l = _
      rw [setB_same h]
noncomputable def seB (b : Nat) (o : Obj) (h : AH) : AH := { h with blocks := Ev.setB b o h.blocks }
theorem seB_same {b : Nat} {o : Obj} {h : AH} (hg : h.get b = some o) : seB b o h = h := by
  unfold seB
  rw [setB_same hg]
noncomputable def tellB (s : Nat) (cs' : List Value) (n' : Nat) : LS := fun t h K => match t.get s with
  | .pointer (some ⟨g, 0, none⟩) => match h.get g with
    | some (.cells ⟨[a, .slice (some ⟨b, 0, none⟩) n c]⟩ ty fr) => match h.get b with
      | some (.cells ⟨cs⟩ tb fb) => (cs = cs' ∧ n = n' ∧ c = n') ∧ K .normal t (seB b (.cells ⟨cs'⟩ tb fb) (seB g (.cells ⟨[a, .slice (some ⟨b, 0, none⟩) n' n']⟩ ty fr) h))
      | _ => False
    | _ => False
  | _ => False
theorem tellB_ok (p : Nat) (P : Program) (m s : Nat) (cs' : List Value) (n' : Nat) : GSpec p P m (tellB s cs' n') := by
  intro t τ h K hr hs
  unfold tellB at hs
  split at hs
  · split at hs
    · rename_i a b n c ty fr hg
      split at hs
      · rename_i cs tb fb hb
        obtain ⟨⟨rfl, rfl, rfl⟩, hs⟩ := hs
        rw [seB_same hg, seB_same hb] at hs
        exact ⟨t, τ, h, Weak.refl _ _ _ _, hr, hs⟩
      · exact hs.elim
    · exact hs.elim
  · exact hs.elim
def TL (cs : List Value) (n : Nat) (cs' : List Value) (n' : Nat) (X : Prop) : Prop := (cs = cs' ∧ n = n' ∧ n = n') ∧ X
theorem TL_mk {D D' : Bs} (h : D = D') {X : Prop} (hX : X) : TL (D.map u8V) D.length (D'.map u8V) D'.length X := by subst h; exact ⟨⟨rfl, rfl, rfl⟩, hX⟩
noncomputable def GWq (c1 c2 c3 : List Value) (n1 n2 n3 : Nat) : Hooks := hookOr (ghost1 5 (tellB 5 c1 n1)) (hookOr (ghost1 8 (tellB 5 c2 n2)) (ghost1 9 (tellB 5 c3 n3)))
theorem GWq_ok (c1 c2 c3 : List Value) (n1 n2 n3 : Nat) : LoopsOK 0 Tryz.prog 49 (GWq c1 c2 c3 n1 n2 n3) (codeOf Tryz.f11) := loops_or (ghosts_one (by kernel_rfl) (tellB_ok _ _ _ _ _ _)) (loops_or (ghosts_one (by kernel_rfl) (tellB_ok _ _ _ _ _ _)) (ghosts_one (by kernel_rfl) (tellB_ok _ _ _ _ _ _)))
noncomputable def GWs (c1 c2 : List Value) (n1 n2 : Nat) : Hooks := hookOr (ghost1 8 (tellB 6 c1 n1)) (ghost1 9 (tellB 6 c2 n2))
theorem GWs_ok (c1 c2 : List Value) (n1 n2 : Nat) : LoopsOK 0 Tryz.prog 39 (GWs c1 c2 n1 n2) (codeOf Tryz.f13) := loops_or (ghosts_one (by kernel_rfl) (tellB_ok _ _ _ _ _ _)) (ghosts_one (by kernel_rfl) (tellB_ok _ _ _ _ _ _))
noncomputable def kq (a b : ByteArray) (X : Prop) : Prop := bif Nat.ble (a.size + b.size) 1000000 then X else False
noncomputable def hwT : List PB → List Value → Nat → (List Value → Nat → Prop) → Prop
  | [], cs, n, K => K cs n
  | p :: r, cs, n, K => pvV p = pvV p ∧ bif nmI p.1 then kq p.1 ⟨#[58, 32]⟩ (kq (p.1 ++ ⟨#[58, 32]⟩) p.2 (kq (p.1 ++ ⟨#[58, 32]⟩ ++ p.2) crB (wrT cs n (p.1 ++ ⟨#[58, 32]⟩ ++ p.2 ++ crB) fun cs n => hwT r cs n K))) else False
noncomputable def SWq (rv hv : Value) (b it : ByteArray) : SC := ⟨idn, spOr (spT 33 [rv] (.int .i64 0)) (spOr (spT 35 [hv, .string hoB] hv) (spOr spNf (spT 36 [.int .i64 (b.size : Int)] (.string it)))), true, true⟩
noncomputable def wqY (b : ByteArray) (cs : List Value) (n : Nat) (Q : Value → Prop) : Prop := kq crB b (wrT cs n (crB ++ b) fun cs n => strT cs n fun v => Q (.tuple ⟨[.string v, .int .i64 0]⟩))
noncomputable def wqX (ho b it : ByteArray) (hv : Value) (L : List PB) (c2 c3 : List Value) (n2 n3 : Nat) (cs : List Value) (n : Nat) (Q : Value → Prop) : Prop :=
  kq hsB ho (kq (hsB ++ ho) crB (wrT cs n (hsB ++ ho ++ crB) fun cs n => TL cs n c2 n2 (tqT [hv, .string hoB] (hwT L c2 n2 fun cs n => TL cs n c3 n3 (
    bif !(b.toList == (ByteArray.mk #[]).toList) then tqT [.int .i64 (b.size : Int)] (kq clB it (kq (clB ++ it) crB (wrT c3 n3 (clB ++ it ++ crB) fun cs n => wqY b cs n Q))) else wqY b c3 n3 Q)))))
noncomputable def wqE (m ho p q b it : ByteArray) (rv hv : Value) (L : List PB) (c1 c2 c3 : List Value) (n1 n2 n3 : Nat) (Q : Value → Prop) : Prop :=
  tqT [rv] (kq m ⟨#[32]⟩ (kq (m ++ ⟨#[32]⟩) p (wr0 (m ++ ⟨#[32]⟩ ++ p) fun cs n => TL cs n c1 n1 (
    bif !(q.toList == (ByteArray.mk #[]).toList) then kq ⟨#[63]⟩ q (wrT c1 n1 (⟨#[63]⟩ ++ q) fun cs n => wqX ho b it hv L c2 c3 n2 n3 cs n Q) else wqX ho b it hv L c2 c3 n2 n3 c1 n1 Q))))
set_option maxRecDepth 20000 in
theorem wqe0 (m ho p q b it  : ByteArray) (c1 c2 c3 : List Value) (n1 n2 n3 : Nat) (Q : Value → Prop) : tfn Tryz.prog (SWq (rV 0 m ho p q ⟨#[]⟩ b (.slice none 0 0)) (.slice none 0 0) b it) [] (GWq c1 c2 c3 n1 n2 n3) 3000 [] Tryz.f11 [rV 0 m ho p q ⟨#[]⟩ b (.slice none 0 0)] h0 (fun v _ => Q v) =
    wqE m ho p q b it (rV 0 m ho p q ⟨#[]⟩ b (.slice none 0 0)) (.slice none 0 0) [] c1 c2 c3 n1 n2 n3 Q := by kernel_rfl
set_option maxRecDepth 20000 in
theorem wqe1 (m ho p q b it a0 b0 : ByteArray) (c1 c2 c3 : List Value) (n1 n2 n3 : Nat) (Q : Value → Prop) : tfn Tryz.prog (SWq (rV 0 m ho p q ⟨#[]⟩ b (fz ⟨[.agg ⟨[.string a0, .string b0]⟩]⟩)) (fz ⟨[.agg ⟨[.string a0, .string b0]⟩]⟩) b it) [] (GWq c1 c2 c3 n1 n2 n3) 3000 [] Tryz.f11 [rV 0 m ho p q ⟨#[]⟩ b (fz ⟨[.agg ⟨[.string a0, .string b0]⟩]⟩)] h0 (fun v _ => Q v) =
    wqE m ho p q b it (rV 0 m ho p q ⟨#[]⟩ b (fz ⟨[.agg ⟨[.string a0, .string b0]⟩]⟩)) (fz ⟨[.agg ⟨[.string a0, .string b0]⟩]⟩) [(a0, b0)] c1 c2 c3 n1 n2 n3 Q := by kernel_rfl
set_option maxRecDepth 20000 in
theorem wqe2 (m ho p q b it a0 b0 a1 b1 : ByteArray) (c1 c2 c3 : List Value) (n1 n2 n3 : Nat) (Q : Value → Prop) : tfn Tryz.prog (SWq (rV 0 m ho p q ⟨#[]⟩ b (fz ⟨[.agg ⟨[.string a0, .string b0]⟩, .agg ⟨[.string a1, .string b1]⟩]⟩)) (fz ⟨[.agg ⟨[.string a0, .string b0]⟩, .agg ⟨[.string a1, .string b1]⟩]⟩) b it) [] (GWq c1 c2 c3 n1 n2 n3) 3000 [] Tryz.f11 [rV 0 m ho p q ⟨#[]⟩ b (fz ⟨[.agg ⟨[.string a0, .string b0]⟩, .agg ⟨[.string a1, .string b1]⟩]⟩)] h0 (fun v _ => Q v) =
    wqE m ho p q b it (rV 0 m ho p q ⟨#[]⟩ b (fz ⟨[.agg ⟨[.string a0, .string b0]⟩, .agg ⟨[.string a1, .string b1]⟩]⟩)) (fz ⟨[.agg ⟨[.string a0, .string b0]⟩, .agg ⟨[.string a1, .string b1]⟩]⟩) [(a0, b0), (a1, b1)] c1 c2 c3 n1 n2 n3 Q := by kernel_rfl
set_option maxRecDepth 20000 in
theorem wqe3 (m ho p q b it a0 b0 a1 b1 a2 b2 : ByteArray) (c1 c2 c3 : List Value) (n1 n2 n3 : Nat) (Q : Value → Prop) : tfn Tryz.prog (SWq (rV 0 m ho p q ⟨#[]⟩ b (fz ⟨[.agg ⟨[.string a0, .string b0]⟩, .agg ⟨[.string a1, .string b1]⟩, .agg ⟨[.string a2, .string b2]⟩]⟩)) (fz ⟨[.agg ⟨[.string a0, .string b0]⟩, .agg ⟨[.string a1, .string b1]⟩, .agg ⟨[.string a2, .string b2]⟩]⟩) b it) [] (GWq c1 c2 c3 n1 n2 n3) 3000 [] Tryz.f11 [rV 0 m ho p q ⟨#[]⟩ b (fz ⟨[.agg ⟨[.string a0, .string b0]⟩, .agg ⟨[.string a1, .string b1]⟩, .agg ⟨[.string a2, .string b2]⟩]⟩)] h0 (fun v _ => Q v) =
    wqE m ho p q b it (rV 0 m ho p q ⟨#[]⟩ b (fz ⟨[.agg ⟨[.string a0, .string b0]⟩, .agg ⟨[.string a1, .string b1]⟩, .agg ⟨[.string a2, .string b2]⟩]⟩)) (fz ⟨[.agg ⟨[.string a0, .string b0]⟩, .agg ⟨[.string a1, .string b1]⟩, .agg ⟨[.string a2, .string b2]⟩]⟩) [(a0, b0), (a1, b1), (a2, b2)] c1 c2 c3 n1 n2 n3 Q := by kernel_rfl
set_option maxRecDepth 20000 in
theorem wqe4 (m ho p q b it a0 b0 a1 b1 a2 b2 a3 b3 : ByteArray) (c1 c2 c3 : List Value) (n1 n2 n3 : Nat) (Q : Value → Prop) : tfn Tryz.prog (SWq (rV 0 m ho p q ⟨#[]⟩ b (fz ⟨[.agg ⟨[.string a0, .string b0]⟩, .agg ⟨[.string a1, .string b1]⟩, .agg ⟨[.string a2, .string b2]⟩, .agg ⟨[.string a3, .string b3]⟩]⟩)) (fz ⟨[.agg ⟨[.string a0, .string b0]⟩, .agg ⟨[.string a1, .string b1]⟩, .agg ⟨[.string a2, .string b2]⟩, .agg ⟨[.string a3, .string b3]⟩]⟩) b it) [] (GWq c1 c2 c3 n1 n2 n3) 3000 [] Tryz.f11 [rV 0 m ho p q ⟨#[]⟩ b (fz ⟨[.agg ⟨[.string a0, .string b0]⟩, .agg ⟨[.string a1, .string b1]⟩, .agg ⟨[.string a2, .string b2]⟩, .agg ⟨[.string a3, .string b3]⟩]⟩)] h0 (fun v _ => Q v) =
    wqE m ho p q b it (rV 0 m ho p q ⟨#[]⟩ b (fz ⟨[.agg ⟨[.string a0, .string b0]⟩, .agg ⟨[.string a1, .string b1]⟩, .agg ⟨[.string a2, .string b2]⟩, .agg ⟨[.string a3, .string b3]⟩]⟩)) (fz ⟨[.agg ⟨[.string a0, .string b0]⟩, .agg ⟨[.string a1, .string b1]⟩, .agg ⟨[.string a2, .string b2]⟩, .agg ⟨[.string a3, .string b3]⟩]⟩) [(a0, b0), (a1, b1), (a2, b2), (a3, b3)] c1 c2 c3 n1 n2 n3 Q := by kernel_rfl
theorem someWRQ : Tryz.f11.body.isSome = true := by kernel_rfl
theorem kq_mk {a b : Bs} (h : a.length + b.length ≤ 1000000) {X : Prop} (hX : X) : kq (bl a) (bl b) X := by
  unfold kq
  rw [bl_size, bl_size]
  exact need_mk (Nat.ble_eq_true_of_le h) hX
theorem hwT_ok {K : List Value → Nat → Prop} : ∀ (L : List (Bs × Bs)) (D : Bs), HsOk L → D.length + 60 * L.length ≤ 40000 → K ((D ++ L.flatMap BytesLaw.hdB).map u8V) (D ++ L.flatMap BytesLaw.hdB).length → hwT (L.map pbO) (D.map u8V) D.length K
  | [], D, _, _, hK => by
    rw [List.flatMap_nil, List.append_nil] at hK
    exact hK
  | p :: r, D, h, hD, hK => by
    have hp := h p (by simp)
    have l1 := (nm_ok _ hp.1).2.1
    have l2 := (va_ok _ hp.2).1
    have l3 := hd_len (p := p) l1 l2
    rw [List.length_cons] at hD
    have e : bl p.1 ++ bl [58, 32] ++ bl p.2 ++ bl [13, 10] = bl (BytesLaw.hdB p) := by
      rw [bl_app, bl_app, bl_app]
      congr 1
      unfold BytesLaw.hdB
      simp
    show pvV (pbO p) = pvV (pbO p) ∧ (bif nmI (bl p.1) then kq (bl p.1) (bl [58, 32]) (kq (bl p.1 ++ bl [58, 32]) (bl p.2) (kq (bl p.1 ++ bl [58, 32] ++ bl p.2) (bl [13, 10]) (wrT (D.map u8V) D.length (bl p.1 ++ bl [58, 32] ++ bl p.2 ++ bl [13, 10]) fun cs n => hwT (r.map pbO) cs n K))) else False)
    rw [e, bl_app, bl_app]
    refine ⟨rfl, need_mk (by unfold nmI; rw [bl_list]; simpa using hp.1) (kq_mk (by simp; omega) (kq_mk (by simp; omega) (kq_mk (by simp; omega) (wrT_ok (by unfold BytesLaw.hdB; simp) (by omega) (by omega) ?_))))⟩
    refine hwT_ok r (D ++ BytesLaw.hdB p) (fun q hq => h q (List.mem_cons_of_mem p hq)) (by rw [List.length_append]; omega) ?_
    rw [List.flatMap_cons, ← List.append_assoc] at hK
    exact hK
theorem wqY_ok {b D : Bs} {Q : Value → Prop} (hb : b.length ≤ 1000) (hD : D.length ≤ 20000) (hQ : Q (.tuple ⟨[strV (D ++ (13 :: 10 :: b)), .int .i64 0]⟩)) : wqY (bl b) (D.map u8V) D.length Q := by
  unfold wqY
  refine kq_mk (a := [13, 10]) (by simp; omega) ?_
  rw [show crB = bl [13, 10] from rfl, bl_app]
  refine wrT_ok (by simp) (by simp; omega) (by omega) (strT_ok (by simp) (by simp; omega) hQ)
theorem wqX_ok {ho b : Bs} {L : List (Bs × Bs)} (hL : HsOk L) (hn : L.length ≤ 4) {it D D2 D3 : Bs} {hv : Value} {Q : Value → Prop} (hb : b.length ≤ 1000) (hh : ho.length ≤ 100) (hi : it.length ≤ 10) (hD : D.length ≤ 1000)
    (e2 : D ++ ([32, 72, 84, 84, 80, 47, 49, 46, 49, 13, 10, 104, 111, 115, 116, 58, 32] ++ ho ++ [13, 10]) = D2) (e3 : D2 ++ L.flatMap BytesLaw.hdB = D3)
    (hQ : Q (.tuple ⟨[strV (D3 ++ ((if b = [] then [] else ([99, 111, 110, 116, 101, 110, 116, 45, 108, 101, 110, 103, 116, 104, 58, 32] ++ (it ++ [13, 10]))) ++ 13 :: 10 :: b)), .int .i64 0]⟩)) : wqX (bl ho) (bl b) (bl it) hv (L.map pbO) (D2.map u8V) (D3.map u8V) D2.length D3.length (D.map u8V) D.length Q := by
  have lh : ([32, 72, 84, 84, 80, 47, 49, 46, 49, 13, 10, 104, 111, 115, 116, 58, 32] : Bs).length = 17 := rfl
  have lc : ([99, 111, 110, 116, 101, 110, 116, 45, 108, 101, 110, 103, 116, 104, 58, 32] : Bs).length = 16 := rfl
  have hf := hds_len fun p hp => (hs_ok hL p hp).2
  have l2 : D2.length ≤ 1200 := by rw [← e2]; simp only [List.length_append, List.length_cons, List.length_nil]; omega
  have l3 : D3.length ≤ 2000 := by rw [← e3]; simp only [List.length_append]; omega
  unfold wqX
  refine kq_mk (a := [32, 72, 84, 84, 80, 47, 49, 46, 49, 13, 10, 104, 111, 115, 116, 58, 32]) (by omega) ?_
  rw [show hsB = bl [32, 72, 84, 84, 80, 47, 49, 46, 49, 13, 10, 104, 111, 115, 116, 58, 32] from rfl, bl_app]
  refine kq_mk (b := [13, 10]) (by simp; omega) ?_
  rw [show crB = bl [13, 10] from rfl, bl_app]
  refine wrT_ok (by simp) (by simp; omega) (by omega) (TL_mk e2 (tqT_mk (hwT_ok L _ hL (by omega) (TL_mk e3 ?_))))
  rw [bl_beq0, bl_size]
  by_cases hz : b = []
  · subst hz
    rw [if_pos rfl] at hQ
    exact pick_f rfl (wqY_ok (by simp) (by omega) hQ)
  · rw [if_neg hz] at hQ
    refine pick_t (by cases b; exact absurd rfl hz; rfl) (tqT_mk (kq_mk (a := [99, 111, 110, 116, 101, 110, 116, 45, 108, 101, 110, 103, 116, 104, 58, 32]) (by omega) ?_))
    rw [show clB = bl [99, 111, 110, 116, 101, 110, 116, 45, 108, 101, 110, 103, 116, 104, 58, 32] from rfl, bl_app]
    refine kq_mk (b := [13, 10]) (by simp; omega) ?_
    rw [bl_app]
    refine wrT_ok (by simp) (by simp; omega) (by omega) (wqY_ok hb (by simp only [List.length_append, List.length_cons, List.length_nil]; omega) ?_)
    show Q (.tuple ⟨[strV _, .int .i64 0]⟩)
    simpa using hQ
def wD1 (r : Rq) : Bs := r.m ++ [32] ++ r.p
def wDq (r : Rq) : Bs := if r.q = [] then wD1 r else wD1 r ++ ([63] ++ r.q)
def wD2 (r : Rq) : Bs := wDq r ++ ([32, 72, 84, 84, 80, 47, 49, 46, 49, 13, 10, 104, 111, 115, 116, 58, 32] ++ r.ho ++ [13, 10])
def wD3 (r : Rq) : Bs := wD2 r ++ r.hs.flatMap BytesLaw.hdB
theorem req_txt (r : Rq) : wD3 r ++ ((if r.bd = [] then [] else ([99, 111, 110, 116, 101, 110, 116, 45, 108, 101, 110, 103, 116, 104, 58, 32] ++ (dcF r.bd.length ++ [13, 10]))) ++ 13 :: 10 :: r.bd) = reqT r := by
  unfold wD3 wD2 wDq wD1 reqT headT reqF reqH lenH tgtB
  by_cases hq : r.q = [] <;> by_cases hz : r.bd = [] <;> simp [hq, hz, BytesLaw.hdB, httpB, hostN, clN]
theorem wqE_ok {r : Rq} (h : RtR r) {rv hv : Value} {Q : Value → Prop} (hQ : Q (.tuple ⟨[strV (reqT r), .int .i64 0]⟩)) : wqE (bl r.m) (bl r.ho) (bl r.p) (bl r.q) (bl r.bd) (bl (dcF r.bd.length)) rv hv (r.hs.map pbO) ((wD1 r).map u8V) ((wD2 r).map u8V) ((wD3 r).map u8V) (wD1 r).length (wD2 r).length (wD3 r).length Q := by
  have l1 := (me_ok _ h.m).2.2.2.1
  have l2 := (ho_ok _ h.ho).2.1
  have l3 := (pa_ok _ h.p).2.2.2.2.1
  have l4 := (qu_ok _ h.q).2.2.1
  have l5 := (bo_ok _ h.bd).1
  have l6 := (ln_ok _ (bo_ok _ h.bd).2).2.2.1
  have l7 : (wD1 r).length ≤ 30 := by unfold wD1; simp only [List.length_append, List.length_cons, List.length_nil]; omega
  rw [← req_txt] at hQ
  unfold wqE
  refine tqT_mk (kq_mk (b := [32]) (by simp; omega) ?_)
  rw [show (ByteArray.mk #[32]) = bl [32] from rfl, bl_app]
  refine kq_mk (by simp; omega) ?_
  rw [bl_app]
  refine wr0_ok (by simp) (by simp; omega) (TL_mk (D' := wD1 r) rfl ?_)
  rw [bl_beq0]
  by_cases hq : r.q = []
  · have e : wDq r = wD1 r := by unfold wDq; rw [if_pos hq]
    exact pick_f (by rw [hq]; rfl) (wqX_ok (D := wD1 r) h.hs h.n (by omega) (by omega) (by omega) (by omega) (by unfold wD2; rw [e]) rfl hQ)
  · have e : wDq r = wD1 r ++ ([63] ++ r.q) := by unfold wDq; rw [if_neg hq]
    refine pick_t (by cases hq2 : r.q; exact absurd hq2 hq; rfl) (kq_mk (a := [63]) (by simp; omega) ?_)
    rw [show (ByteArray.mk #[63]) = bl [63] from rfl, bl_app]
    exact wrT_ok (by simp) (by simp; omega) (by omega) (wqX_ok (D := wD1 r ++ ([63] ++ r.q)) h.hs h.n (by omega) (by omega) (by omega) (by simp only [List.length_append, List.length_cons, List.length_nil]; omega) (by unfold wD2; rw [e]) rfl hQ)
theorem wo_at {L : List (Bs × Bs)} (h : HsOk L) (hn : L.length ≤ 4) : FnOK 0 Tryz.prog 35 ⟨[hdV L, .string hoB]⟩ h0 (fun v _ => v = hdV L) := by
  cases L with
  | nil => exact FnOK.ftree SNd_ok mixed Tryz.func35 someWO (wo_nil hoB (fun v => v = .slice none 0 0)) rfl
  | cons p l =>
    have := wo_fn (k := hostN) host_ok.2.1 (p :: l) (by simp) (by omega) fun q hq => (nm_ok _ (h q hq).1).1
    rw [rm_hs h] at this
    exact this
theorem SWq_ok {r : Rq} (h : RtR r) : (SWq (rqW r (hdV r.hs)) (hdV r.hs) (bl r.bd) (bl (dcF r.bd.length))).cfg.OK Tryz.prog := by
  have hv := hv_hd h.hs h.n
  have hi := it_fn (ln_ok _ (bo_ok _ h.bd).2).2.1
  have hi : FnOK 0 Tryz.prog 36 ⟨[.int .i64 ((bl r.bd).size : Int)]⟩ h0 (fun u _ => u = strV (dcF r.bd.length)) := by rw [bl_size]; exact hi
  refine (spT_ok (xs := [rqW r (hdV r.hs)]) (cv_fn h hv) ?_ rfl |>.or ((spT_ok (xs := [hdV r.hs, .string hoB]) (wo_at h.hs h.n) ?_ hv.2.1).or (spNf_ok.or (spT_ok (xs := [.int .i64 ((bl r.bd).size : Int)]) hi rfl rfl)))).cfg
  · cases r.hs <;> rfl
  · show (p2 _ && true) = true; rw [hv.1]; rfl
theorem wq_fn {r : Rq} (h : RtR r) : FnOK 0 Tryz.prog 11 ⟨[rqW r (hdV r.hs)]⟩ h0 (fun v _ => v = .tuple ⟨[strV (reqT r), .int .i64 0]⟩) := by
  have ok := SWq_ok h
  have he := wqE_ok h (rv := rqW r (hdV r.hs)) (hv := hdV r.hs) (Q := fun v => v = .tuple ⟨[strV (reqT r), .int .i64 0]⟩) rfl
  have hn := h.n
  have gh := GWq_ok ((wD1 r).map u8V) ((wD2 r).map u8V) ((wD3 r).map u8V) (wD1 r).length (wD2 r).length (wD3 r).length
  generalize hT : reqT r = t at he ⊢
  generalize wD1 r = d1 at he gh
  generalize wD2 r = d2 at he gh
  generalize wD3 r = d3 at he gh
  obtain ⟨a, m, ho, p, q, f, hs, b⟩ := r
  match hs, hn with
  | [], _ => exact FnOK.ttree ok mixed Tryz.func11 someWRQ gh (wqe0 (bl m) (bl ho) (bl p) (bl q) (bl b) (bl (dcF b.length))  (d1.map u8V) (d2.map u8V) (d3.map u8V) d1.length d2.length d3.length (fun v => v = .tuple ⟨[strV t, .int .i64 0]⟩)) he
  | [p0], _ => exact FnOK.ttree ok mixed Tryz.func11 someWRQ gh (wqe1 (bl m) (bl ho) (bl p) (bl q) (bl b) (bl (dcF b.length)) (bl p0.1) (bl p0.2) (d1.map u8V) (d2.map u8V) (d3.map u8V) d1.length d2.length d3.length (fun v => v = .tuple ⟨[strV t, .int .i64 0]⟩)) he
  | [p0, p1], _ => exact FnOK.ttree ok mixed Tryz.func11 someWRQ gh (wqe2 (bl m) (bl ho) (bl p) (bl q) (bl b) (bl (dcF b.length)) (bl p0.1) (bl p0.2) (bl p1.1) (bl p1.2) (d1.map u8V) (d2.map u8V) (d3.map u8V) d1.length d2.length d3.length (fun v => v = .tuple ⟨[strV t, .int .i64 0]⟩)) he
  | [p0, p1, p2], _ => exact FnOK.ttree ok mixed Tryz.func11 someWRQ gh (wqe3 (bl m) (bl ho) (bl p) (bl q) (bl b) (bl (dcF b.length)) (bl p0.1) (bl p0.2) (bl p1.1) (bl p1.2) (bl p2.1) (bl p2.2) (d1.map u8V) (d2.map u8V) (d3.map u8V) d1.length d2.length d3.length (fun v => v = .tuple ⟨[strV t, .int .i64 0]⟩)) he
  | [p0, p1, p2, p3], _ => exact FnOK.ttree ok mixed Tryz.func11 someWRQ gh (wqe4 (bl m) (bl ho) (bl p) (bl q) (bl b) (bl (dcF b.length)) (bl p0.1) (bl p0.2) (bl p1.1) (bl p1.2) (bl p2.1) (bl p2.2) (bl p3.1) (bl p3.2) (d1.map u8V) (d2.map u8V) (d3.map u8V) d1.length d2.length d3.length (fun v => v = .tuple ⟨[strV t, .int .i64 0]⟩)) he
  | _ :: _ :: _ :: _ :: _ :: _, hn => exact absurd hn (by simp)

/-! WriteResponse -/
def stB : ByteArray := ⟨#[72, 84, 84, 80, 47, 49, 46, 49, 32]⟩
noncomputable def inDc (n : Int) : Bool := decide (0 ≤ n) && (dcL.map (·.1)).contains n.toNat
noncomputable def spIt (f : FuncId) (args : Array Value) (h : AH) : Option (Bool × Value × AH) :=
  cond (Nat.beq f 36) (match args with
    | ⟨[.int .i64 n]⟩ => some (inDc n, .string (bl (dcF n.toNat)), h)
    | _ => none) none
theorem spIt_ok : SpOK spIt := by
  intro f args h v h' hs
  unfold spIt at hs
  obtain ⟨hf, hs2⟩ := cond_some hs
  clear hs
  have := Nat.eq_of_beq_eq_true hf
  subst this
  split at hs2
  · injection hs2 with hs
    injection hs with hb hs
    injection hs with hv hh
    subst hv hh
    rename_i n
    unfold inDc at hb
    rw [Bool.and_eq_true, decide_eq_true_eq] at hb
    have hm : n.toNat ∈ dcL.map (·.1) := by simpa using hb.2
    have hd : ∀ k ∈ dcL.map (·.1), (k, dcF k) ∈ dcL := by decide +kernel
    have := it_fn (hd _ hm)
    rw [show (((n.toNat, dcF n.toNat) : Nat × Bs).1 : Int) = n from Int.toNat_of_nonneg hb.1] at this
    exact ⟨FnOK.pure this rfl rfl h, Nat.le_refl _⟩
  · cases hs2
noncomputable def SWs (rv : Value) : SC := ⟨idn, spOr (spT 41 [rv] (.int .i64 0)) (spOr spNf spIt), true, true⟩
noncomputable def dcB (n : Int) : ByteArray := bl (dcF n.toNat)
noncomputable def wsF (b : ByteArray) (cs : List Value) (n : Nat) (Q : Value → Prop) : Prop :=
  bif inDc (b.size : Int) then kq clB (dcB (b.size : Int)) (kq (clB ++ dcB (b.size : Int)) crB (kq (clB ++ dcB (b.size : Int) ++ crB) crB (kq (clB ++ dcB (b.size : Int) ++ crB ++ crB) b
    (wrT cs n (clB ++ dcB (b.size : Int) ++ crB ++ crB ++ b) fun cs n => strT cs n fun v => Q (.tuple ⟨[.string v, .int .i64 0]⟩))))) else False
noncomputable def wsX (st : Int) (re b : ByteArray) (L : List PB) (c1 c2 : List Value) (n1 n2 : Nat) (Q : Value → Prop) : Prop :=
  bif inDc st then kq stB (dcB st) (kq (stB ++ dcB st) ⟨#[32]⟩ (kq (stB ++ dcB st ++ ⟨#[32]⟩) re (kq (stB ++ dcB st ++ ⟨#[32]⟩ ++ re) crB (wr0 (stB ++ dcB st ++ ⟨#[32]⟩ ++ re ++ crB) fun cs n => TL cs n c1 n1 (hwT L c1 n1 fun cs n => TL cs n c2 n2 (wsF b c2 n2 Q)))))) else False
noncomputable def wsE (st : Int) (b : ByteArray) (rv : Value) (L : List PB) (c1 c2 : List Value) (n1 n2 : Nat) (Q : Value → Prop) : Prop :=
  tqT [rv] (bif st == 200 then wsX st ⟨#[79, 75]⟩ b L c1 c2 n1 n2 Q else wsX st ⟨#[45]⟩ b L c1 c2 n1 n2 Q)
set_option maxRecDepth 20000 in
theorem wse0 (st : Int) (b  : ByteArray) (c1 c2 : List Value) (n1 n2 : Nat) (Q : Value → Prop) : tfn Tryz.prog (SWs (sV st (.slice none 0 0) b)) [] (GWs c1 c2 n1 n2) 3000 [] Tryz.f13 [sV st (.slice none 0 0) b] h0 (fun v _ => Q v) = wsE st b (sV st (.slice none 0 0) b) [] c1 c2 n1 n2 Q := by kernel_rfl
set_option maxRecDepth 20000 in
theorem wse1 (st : Int) (b a0 b0 : ByteArray) (c1 c2 : List Value) (n1 n2 : Nat) (Q : Value → Prop) : tfn Tryz.prog (SWs (sV st (fz ⟨[.agg ⟨[.string a0, .string b0]⟩]⟩) b)) [] (GWs c1 c2 n1 n2) 3000 [] Tryz.f13 [sV st (fz ⟨[.agg ⟨[.string a0, .string b0]⟩]⟩) b] h0 (fun v _ => Q v) = wsE st b (sV st (fz ⟨[.agg ⟨[.string a0, .string b0]⟩]⟩) b) [(a0, b0)] c1 c2 n1 n2 Q := by kernel_rfl
set_option maxRecDepth 20000 in
theorem wse2 (st : Int) (b a0 b0 a1 b1 : ByteArray) (c1 c2 : List Value) (n1 n2 : Nat) (Q : Value → Prop) : tfn Tryz.prog (SWs (sV st (fz ⟨[.agg ⟨[.string a0, .string b0]⟩, .agg ⟨[.string a1, .string b1]⟩]⟩) b)) [] (GWs c1 c2 n1 n2) 3000 [] Tryz.f13 [sV st (fz ⟨[.agg ⟨[.string a0, .string b0]⟩, .agg ⟨[.string a1, .string b1]⟩]⟩) b] h0 (fun v _ => Q v) = wsE st b (sV st (fz ⟨[.agg ⟨[.string a0, .string b0]⟩, .agg ⟨[.string a1, .string b1]⟩]⟩) b) [(a0, b0), (a1, b1)] c1 c2 n1 n2 Q := by kernel_rfl
set_option maxRecDepth 20000 in
theorem wse3 (st : Int) (b a0 b0 a1 b1 a2 b2 : ByteArray) (c1 c2 : List Value) (n1 n2 : Nat) (Q : Value → Prop) : tfn Tryz.prog (SWs (sV st (fz ⟨[.agg ⟨[.string a0, .string b0]⟩, .agg ⟨[.string a1, .string b1]⟩, .agg ⟨[.string a2, .string b2]⟩]⟩) b)) [] (GWs c1 c2 n1 n2) 3000 [] Tryz.f13 [sV st (fz ⟨[.agg ⟨[.string a0, .string b0]⟩, .agg ⟨[.string a1, .string b1]⟩, .agg ⟨[.string a2, .string b2]⟩]⟩) b] h0 (fun v _ => Q v) = wsE st b (sV st (fz ⟨[.agg ⟨[.string a0, .string b0]⟩, .agg ⟨[.string a1, .string b1]⟩, .agg ⟨[.string a2, .string b2]⟩]⟩) b) [(a0, b0), (a1, b1), (a2, b2)] c1 c2 n1 n2 Q := by kernel_rfl
theorem someWRS : Tryz.f13.body.isSome = true := by kernel_rfl
theorem inDc_mk {n : Nat} (h : (n, dcF n) ∈ dcL) : inDc (n : Int) = true := by
  unfold inDc
  rw [decide_eq_true (by omega), Bool.true_and, Int.toNat_natCast]
  simpa using ⟨_, h⟩
theorem st_txt : ∀ n ∈ stI, inDc n = true ∧ (dcF n.toNat).length ≤ 3 ∧ stF n = [72, 84, 84, 80, 47, 49, 46, 49, 32] ++ (dcF n.toNat ++ (32 :: (if n == 200 then [79, 75] else [45]))) := by decide +kernel
theorem wsF_ok {b D : Bs} {Q : Value → Prop} (hb : b.length ∈ lnL.map (·.1)) (hl : b.length ≤ 1000) (hD : D.length ≤ 20000) (hQ : Q (.tuple ⟨[strV (D ++ ([99, 111, 110, 116, 101, 110, 116, 45, 108, 101, 110, 103, 116, 104, 58, 32] ++ (dcF b.length ++ (13 :: 10 :: 13 :: 10 :: b)))), .int .i64 0]⟩)) : wsF (bl b) (D.map u8V) D.length Q := by
  have l1 := (ln_ok _ hb).2.2.1
  have lc : ([99, 111, 110, 116, 101, 110, 116, 45, 108, 101, 110, 103, 116, 104, 58, 32] : Bs).length = 16 := rfl
  unfold wsF dcB
  rw [bl_size, Int.toNat_natCast]
  refine need_mk (inDc_mk (ln_ok _ hb).2.1) (kq_mk (a := [99, 111, 110, 116, 101, 110, 116, 45, 108, 101, 110, 103, 116, 104, 58, 32]) (by omega) ?_)
  rw [show clB = bl [99, 111, 110, 116, 101, 110, 116, 45, 108, 101, 110, 103, 116, 104, 58, 32] from rfl, bl_app]
  refine kq_mk (b := [13, 10]) (by simp; omega) ?_
  rw [show crB = bl [13, 10] from rfl, bl_app]
  refine kq_mk (by simp; omega) ?_
  rw [bl_app]
  refine kq_mk (by simp; omega) ?_
  rw [bl_app]
  refine wrT_ok (by simp) (by simp; omega) (by omega) (strT_ok (by simp) (by simp; omega) ?_)
  show Q (.tuple ⟨[strV _, .int .i64 0]⟩)
  simpa using hQ
def sD1 (r : Rs) : Bs := stF r.st ++ [13, 10]
def sD2 (r : Rs) : Bs := sD1 r ++ r.hs.flatMap BytesLaw.hdB
theorem rsp_txt (r : Rs) : sD2 r ++ ([99, 111, 110, 116, 101, 110, 116, 45, 108, 101, 110, 103, 116, 104, 58, 32] ++ (dcF r.bd.length ++ (13 :: 10 :: 13 :: 10 :: r.bd))) = rspT r := by
  unfold sD2 sD1 rspT headT rspH
  simp [BytesLaw.hdB, clN]
theorem wsX_ok {r : Rs} (h : RtS r) {re : Bs} (hre : re.length ≤ 2) (e1 : stF r.st = [72, 84, 84, 80, 47, 49, 46, 49, 32] ++ (dcF r.st.toNat ++ (32 :: re))) {Q : Value → Prop} (hQ : Q (.tuple ⟨[strV (rspT r), .int .i64 0]⟩)) : wsX r.st (bl re) (bl r.bd) (r.hs.map pbO) ((sD1 r).map u8V) ((sD2 r).map u8V) (sD1 r).length (sD2 r).length Q := by
  obtain ⟨s1, s2, _⟩ := st_txt _ h.st
  have l5 := (bs_ok _ h.bd).1
  have hf := hds_len fun p hp => (hs_ok h.hs p hp).2
  have hn := h.n
  have lc : ([72, 84, 84, 80, 47, 49, 46, 49, 32] : Bs).length = 9 := rfl
  have k1 : (sD1 r).length ≤ 30 := by unfold sD1; rw [e1]; simp only [List.length_append, List.length_cons, List.length_nil]; omega
  have k2 : (sD2 r).length ≤ 1000 := by unfold sD2; simp only [List.length_append]; omega
  rw [← rsp_txt] at hQ
  unfold wsX dcB
  refine need_mk s1 (kq_mk (a := [72, 84, 84, 80, 47, 49, 46, 49, 32]) (by omega) ?_)
  rw [show stB = bl [72, 84, 84, 80, 47, 49, 46, 49, 32] from rfl, bl_app]
  refine kq_mk (b := [32]) (by simp; omega) ?_
  rw [show (ByteArray.mk #[32]) = bl [32] from rfl, bl_app]
  refine kq_mk (by simp; omega) ?_
  rw [bl_app]
  refine kq_mk (b := [13, 10]) (by simp; omega) ?_
  rw [show crB = bl [13, 10] from rfl, bl_app]
  refine wr0_ok (by simp) (by simp; omega) (TL_mk (D' := sD1 r) (by unfold sD1; rw [e1]; simp) (hwT_ok r.hs _ h.hs (by omega) (TL_mk (D' := sD2 r) rfl (wsF_ok (bs_ok _ h.bd).2 (by omega) (by omega) hQ))))
theorem wsE_ok {r : Rs} (h : RtS r) {rv : Value} {Q : Value → Prop} (hQ : Q (.tuple ⟨[strV (rspT r), .int .i64 0]⟩)) : wsE r.st (bl r.bd) rv (r.hs.map pbO) ((sD1 r).map u8V) ((sD2 r).map u8V) (sD1 r).length (sD2 r).length Q := by
  obtain ⟨_, _, s3⟩ := st_txt _ h.st
  refine tqT_mk ?_
  cases hc : (r.st == 200) with
  | true =>
    rw [hc, if_pos rfl] at s3
    exact pick_t rfl (wsX_ok h (re := [79, 75]) (by simp) s3 hQ)
  | false =>
    rw [hc, if_neg (by decide)] at s3
    exact pick_f rfl (wsX_ok h (re := [45]) (by simp) s3 hQ)
theorem ws_fn {r : Rs} (h : RtS r) : FnOK 0 Tryz.prog 13 ⟨[sV r.st (hdV r.hs) (bl r.bd)]⟩ h0 (fun v _ => v = .tuple ⟨[strV (rspT r), .int .i64 0]⟩) := by
  have hn := h.n
  have hv := hv_hd h.hs (by omega)
  have ok : (SWs (sV r.st (hdV r.hs) (bl r.bd))).cfg.OK Tryz.prog := ((spT_ok (xs := [sV r.st (hdV r.hs) (bl r.bd)]) (cs_fn h hv) (by cases r.hs <;> rfl) rfl).or (spNf_ok.or spIt_ok)).cfg
  have he := wsE_ok h (rv := sV r.st (hdV r.hs) (bl r.bd)) (Q := fun v => v = .tuple ⟨[strV (rspT r), .int .i64 0]⟩) rfl
  have gh := GWs_ok ((sD1 r).map u8V) ((sD2 r).map u8V) (sD1 r).length (sD2 r).length
  generalize hT : rspT r = t at he ⊢
  generalize sD1 r = d1 at he gh
  generalize sD2 r = d2 at he gh
  obtain ⟨st, hs, b⟩ := r
  match hs, hn with
  | [], _ => exact FnOK.ttree ok mixed Tryz.func13 someWRS gh (wse0 st (bl b)  (d1.map u8V) (d2.map u8V) d1.length d2.length (fun v => v = .tuple ⟨[strV t, .int .i64 0]⟩)) he
  | [p0], _ => exact FnOK.ttree ok mixed Tryz.func13 someWRS gh (wse1 st (bl b) (bl p0.1) (bl p0.2) (d1.map u8V) (d2.map u8V) d1.length d2.length (fun v => v = .tuple ⟨[strV t, .int .i64 0]⟩)) he
  | [p0, p1], _ => exact FnOK.ttree ok mixed Tryz.func13 someWRS gh (wse2 st (bl b) (bl p0.1) (bl p0.2) (bl p1.1) (bl p1.2) (d1.map u8V) (d2.map u8V) d1.length d2.length (fun v => v = .tuple ⟨[strV t, .int .i64 0]⟩)) he
  | [p0, p1, p2], _ => exact FnOK.ttree ok mixed Tryz.func13 someWRS gh (wse3 st (bl b) (bl p0.1) (bl p0.2) (bl p1.1) (bl p1.2) (bl p2.1) (bl p2.2) (d1.map u8V) (d2.map u8V) d1.length d2.length (fun v => v = .tuple ⟨[strV t, .int .i64 0]⟩)) he
  | _ :: _ :: _ :: _ :: _, hn => exact absurd hn (by simp)
end Go.Proofs.YtjphemllikflpaaGreatDoor
