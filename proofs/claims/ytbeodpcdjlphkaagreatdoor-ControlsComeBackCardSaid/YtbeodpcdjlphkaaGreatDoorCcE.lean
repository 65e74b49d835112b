/-
  What headers say about caches: 'Parts', 'told' and 'parse' as specifications.
-/
import Derived.Test.YtbeodpcdjlphkaaGreatDoorCcU
import Derived.Test.YtbeodpcdjlphkaaGreatDoorCcD
namespace CtrlLaw
theorem body_inj : ∀ (r r' : List (List UInt8)) (q q' : List UInt8), (44 : UInt8) ∉ q → (44 : UInt8) ∉ q' → (∀ p ∈ r, (44 : UInt8) ∉ p) → (∀ p ∈ r', (44 : UInt8) ∉ p) → body q r = body q' r' → q = q' ∧ r = r'
  | [], [], q, q', _, _, _, _, h => by rw [body_nil, body_nil] at h; exact ⟨h, rfl⟩
  | [], p :: r, q, q', h1, _, _, _, h => by
    rw [body_nil, body_cons] at h
    exact absurd (by rw [h]; simp) h1
  | p :: r, [], q, q', _, h2, _, _, h => by
    rw [body_nil, body_cons] at h
    exact absurd (by rw [← h]; simp) h2
  | p :: r, p' :: r', q, q', h1, h2, h3, h4, h => by
    rw [body_cons, body_cons] at h
    have e1 := idx_at (body (32 :: p) r) h1
    have e2 := idx_at (body (32 :: p') r') h2
    rw [h, e2] at e1
    have el : q.length = q'.length := by omega
    obtain ⟨x1, x2⟩ := List.append_inj h el
    have x2 := (List.cons.inj x2).2
    have n32 : ∀ x : List UInt8, (44 : UInt8) ∉ x → (44 : UInt8) ∉ 32 :: x := fun x hx e => by
      rcases List.mem_cons.1 e with e | e
      · cases e
      · exact hx e
    obtain ⟨y1, y2⟩ := body_inj r r' (32 :: p) (32 :: p') (n32 p (h3 p (by simp))) (n32 p' (h4 p' (by simp))) (fun x hx => h3 x (by simp [hx])) (fun x hx => h4 x (by simp [hx])) x2
    exact ⟨x1, by rw [(List.cons.inj y1).2, y2]⟩
theorem strP_inj {a b : Part} (ha : a ∈ allQ) (hb : b ∈ allQ) (h : strP a = strP b) : a = b := by
  have h1 := find_all a ha
  have h2 := find_all b hb
  rw [h, h2] at h1
  exact (Option.some.inj h1).symm
theorem map_inj : ∀ {l r : List Part}, (∀ q ∈ l, q ∈ allQ) → (∀ q ∈ r, q ∈ allQ) → l.map strP = r.map strP → l = r
  | [], [], _, _, _ => rfl
  | [], _ :: _, _, _, h => by cases h
  | _ :: _, [], _, _, h => by cases h
  | a :: l, b :: r, h1, h2, h => by
    obtain ⟨x1, x2⟩ := List.cons.inj h
    rw [strP_inj (h1 a (by simp)) (h2 b (by simp)) x1, map_inj (fun q hq => h1 q (by simp [hq])) (fun q hq => h2 q (by simp [hq])) x2]
end CtrlLaw
namespace Go.Proofs.YtbeodpcdjlphkaaGreatDoor
open Go.Ev Go.RowKit CtrlLaw

theorem join_inj : ∀ {ps qs : List Part}, (∀ q ∈ ps, q ∈ allQ) → (∀ q ∈ qs, q ∈ allQ) → Lib.join (ps.map strP) [44, 32] = Lib.join (qs.map strP) [44, 32] → ps = qs
  | [], [], _, _, _ => rfl
  | [], q :: r, _, h2, h => by
    rw [List.map_cons, Lib.join_cons] at h
    have : strP q = [] := (List.append_eq_nil_iff.1 h.symm).1
    exact absurd this (all_good q (h2 q (by simp))).2.1
  | q :: r, [], h1, _, h => by
    rw [List.map_cons, Lib.join_cons] at h
    have : strP q = [] := (List.append_eq_nil_iff.1 h).1
    exact absurd this (all_good q (h1 q (by simp))).2.1
  | a :: l, b :: r, h1, h2, h => by
    rw [List.map_cons, Lib.join_cons, List.map_cons, Lib.join_cons] at h
    have g : ∀ {x : Part}, x ∈ allQ → (44 : UInt8) ∉ strP x := fun hx => good_44 (all_good _ hx).1
    have gm : ∀ {l : List Part}, (∀ q ∈ l, q ∈ allQ) → ∀ p ∈ l.map strP, (44 : UInt8) ∉ p := by
      intro l hl p hp
      obtain ⟨x, hx, rfl⟩ := List.mem_map.1 hp
      exact g (hl x hx)
    obtain ⟨x1, x2⟩ := body_inj (l.map strP) (r.map strP) (strP a) (strP b) (g (h1 a (by simp))) (g (h2 b (by simp))) (gm fun q hq => h1 q (by simp [hq])) (gm fun q hq => h2 q (by simp [hq])) h
    rw [strP_inj (h1 a (by simp)) (h2 b (by simp)) x1, map_inj (fun q hq => h1 q (by simp [hq])) (fun q hq => h2 q (by simp [hq])) x2]
theorem psOf_tx {ps : List Part} (h1 : ps.length ≤ 12) (h2 : ∀ q ∈ ps, q ∈ allQ) : okS (txB ps) = true ∧ psOf (txB ps) = ps := by
  have h : okS (txB ps) = true := okS_iff.2 ⟨ps, h1, h2, rfl⟩
  obtain ⟨_, p2, p3⟩ := psOf_ok h
  refine ⟨h, (join_inj h2 p2 ?_).symm⟩
  have := congrArg (fun b : ByteArray => b.data.toList) p3
  have e : ∀ l, (bl l).data.toList = l := bl_list
  simp only [txB, e] at this
  exact this
noncomputable def LinP (C : List Value → AH → Prop) (o : Value) (H : AH) : Hooks := hook1 6 (hookLS 1 32 [8, 9, 10, 15, 16, 17, 3] [1] [8, 9, 10, 3] (fun vals h K => C vals h ∧ K (.exit 2) (ptX o) H))
theorem onePT : (loopAt (codeOf Tryz.f68) 3).length = 1 := by kernel_rfl
theorem onePI : (loopAt (oneLoop (codeOf Tryz.f68) 3) 6).length = 1 := by kernel_rfl
theorem somePT : Tryz.f68.body.isSome = true := by kernel_rfl
theorem ptN' (s : ByteArray) (cs : List Value) (k : Nat) (C : List Value → AH → Prop) (Q : Value → AH → Prop) :
    tfn Tryz.prog SB3 [] (hook1 3 (thenLS (hookLS 1 32 [8, 9, 10, 3] [1] [3] (fun vals h K => iter 1 Tryz.prog SB3 [] (LinP C nilV (pHN s)) 600 32 [8, 9, 10, 3] [1] [3] [1] (oneLoop (codeOf Tryz.f68) 3) 2 vals h K)) (freezeG 32 false 1 [3]))) 600 [] Tryz.f68 [.slice (some ⟨0, 0, none⟩) 1 1] (pHN s) Q =
      bif okS s && true && true && true then C (ptV ((pieces (psOf s)).map strV) nilV ((Array.mk ((pieces (psOf s)).map strV)).size : Int) 0) (pHN s) ∧ Q (fz ⟨[]⟩) (pHN s) else False := by kernel_rfl
theorem ptB' (s : ByteArray) (cs : List Value) (k : Nat) (C : List Value → AH → Prop) (Q : Value → AH → Prop) :
    tfn Tryz.prog SB3 [] (hook1 3 (thenLS (hookLS 1 32 [8, 9, 10, 3] [1] [3] (fun vals h K => iter 1 Tryz.prog SB3 [] (LinP C (.slice (some ⟨1, 0, none⟩) k k) (pHB s cs)) 600 32 [8, 9, 10, 3] [1] [3] [1] (oneLoop (codeOf Tryz.f68) 3) 2 vals h K)) (freezeG 32 false 1 [3]))) 600 [] Tryz.f68 [.slice (some ⟨0, 0, none⟩) 1 1] (pHN s) Q =
      bif okS s && true && true && true then C (ptV ((pieces (psOf s)).map strV) nilV ((Array.mk ((pieces (psOf s)).map strV)).size : Int) 0) (pHN s) ∧ NoNames (.cells ⟨cs⟩ 9 (0, 0)) ∧ NoNames (.cells ⟨cs⟩ 9 (0, 0)) ∧ bif ((Nat.beq k k && Nat.beq k k) && true) && cs.all p1 && k.ble k && (k * 1).ble cs.length && true then Q (fz ⟨chunk false 1 k cs⟩) ⟨2, 1, [(0, .cells ⟨[.string s]⟩ 9 (0, 0))]⟩ else False else False := by kernel_rfl

/-- The parts, as strings. -/
noncomputable def prV (s : ByteArray) : List Value := ((psOf s).map strP).map strV
set_option maxRecDepth 20000 in
theorem pt_fn {ps : List Part} (h1 : ps.length ≤ 12) (h2 : ∀ q ∈ ps, q ∈ allQ) : FnOK 1 Tryz.prog 68 ⟨[.slice (some ⟨0, 0, none⟩) 1 1]⟩ (pHN (txB ps)) (fun v g => v = fz ⟨(ps.map strP).map strV⟩ ∧ g.get 0 = some (.cells ⟨[.string (txB ps)]⟩ 9 (0, 0))) := by
  obtain ⟨hok, hps⟩ := psOf_tx h1 h2
  have hz : (pieces ps).length ≤ 13 := by
    cases ps with
    | nil => decide
    | cons q r => simp only [pieces, List.length_cons, List.length_map] at h1 ⊢; omega
  have hsz : ((Array.mk ((pieces (psOf (txB ps))).map strV)).size : Int) = ((pieces ps).length : Int) := by rw [hps]; simp
  have hin : ∀ (K : AExit → List Value → AH → Prop), K (.exit 2) (ptX (outP (ps.map strP))) (pH (txB ps) (ps.map strP)) → ∃ n, iter 1 Tryz.prog SB3 [] noHooks 600 32 [8, 9, 10, 15, 16, 17, 3] [1] [8, 9, 10, 3] [1] (oneLoop (oneLoop (codeOf Tryz.f68) 3) 6) n (ptV ((pieces ps).map strV) nilV ((pieces ps).length : Int) 0) (pHN (txB ps)) K := by
    intro K hK
    cases ps with
    | nil =>
      refine ⟨2, ?_⟩
      have e1 : ∀ B : List Value → AH → Prop, once 1 Tryz.prog SB3 [] noHooks 600 32 [8, 9, 10, 15, 16, 17, 3] [1] [8, 9, 10, 3] [1] (oneLoop (oneLoop (codeOf Tryz.f68) 3) 6) (ptV [strV []] nilV 1 0) (pHN (txB [])) B K = (Value.string ⟨#[]⟩ = Value.string ⟨#[]⟩ ∧ B (ptV [strV []] nilV 1 1) (pHN (txB []))) := by intro B; kernel_rfl
      have e2 : ∀ B : List Value → AH → Prop, once 1 Tryz.prog SB3 [] noHooks 600 32 [8, 9, 10, 15, 16, 17, 3] [1] [8, 9, 10, 3] [1] (oneLoop (oneLoop (codeOf Tryz.f68) 3) 6) (ptV [strV []] nilV 1 1) (pHN (txB [])) B K = K (.exit 2) (ptX nilV) (pHN (txB [])) := by intro B; kernel_rfl
      exact (e1 _).mpr ⟨rfl, (e2 _).mpr hK⟩
    | cons q r =>
      have hl : (pieces (q :: r)).length = (q :: r).length := by simp [pieces]
      refine ⟨(q :: r).length + 1, ?_⟩
      have := pt_loop (s := txB (q :: r)) h2 (Z := pieces (q :: r)) hl (by omega) ?_ K (q :: r).length 0 (by omega) hK
      · rw [hl]; exact this
      · intro i z x hz hx
        have hxa : x ∈ allQ := h2 x (List.mem_of_getElem? hx)
        obtain ⟨g1, g2, g3⟩ := all_good x hxa
        cases i with
        | zero =>
          simp only [pieces, List.getElem?_cons_zero, Option.some.injEq] at hz hx
          subst hz hx
          exact ⟨trim_good g1, by omega⟩
        | succ i =>
          simp only [pieces, List.getElem?_cons_succ, List.getElem?_map] at hz hx
          rw [hx] at hz
          simp only [Option.map_some, Option.some.injEq] at hz
          subst hz
          exact ⟨trim_blank g1 g2, by simp only [List.length_cons]; omega⟩
  have hL : ∀ (o : Value) (H : AH), o = outP (ps.map strP) → H = pH (txB ps) (ps.map strP) →
      LSpec 1 Tryz.prog 32 (oneLoop (codeOf Tryz.f68) 3) (thenLS (hookLS 1 32 [8, 9, 10, 3] [1] [3] (fun vals h K => iter 1 Tryz.prog SB3 [] (LinP (fun vals h => vals = ptV ((pieces ps).map strV) nilV ((pieces ps).length : Int) 0 ∧ h = pHN (txB ps)) o H) 600 32 [8, 9, 10, 3] [1] [3] [1] (oneLoop (codeOf Tryz.f68) 3) 2 vals h K)) (freezeG 32 false 1 [3])) := by
    intro o H e1 e2
    refine thenLS_ok (hook_ok (G := []) (f := 600) (sameX := [1]) SB3_ok mixed (by decide) (loops_one onePI (hook_ok (G := []) (L := noHooks) (f := 600) (sameX := [1]) SB3_ok mixed (by decide) (loops_none _ _ _ _) ?_)) fun vals h K hi => ⟨2, hi⟩) (freezeG_ok _ _ _ _ _ _)
    rintro vals h K ⟨⟨rfl, rfl⟩, hK⟩
    subst e1 e2
    exact hin K hK
  have hokt : (okS (txB ps) && true && true && true) = true := by rw [hok]; rfl
  cases hP : ps.map strP with
  | nil =>
    rw [hP] at hL
    refine FnOK.ttree SB3_ok mixed Tryz.func68 somePT (loops_one onePT (hL _ _ rfl rfl)) (ptN' (txB ps) [] 0 _ (fun v g => v = fz ⟨[]⟩ ∧ g.get 0 = some (.cells ⟨[.string (txB ps)]⟩ 9 (0, 0)))) ?_
    rw [hsz, hps]
    exact need_mk hokt ⟨⟨rfl, rfl⟩, rfl, rfl⟩
  | cons t l =>
    rw [hP] at hL
    refine FnOK.ttree SB3_ok mixed Tryz.func68 somePT (loops_one onePT (hL _ _ rfl rfl)) (ptB' (txB ps) ((t :: l).map strV) (t :: l).length _ (fun v g => v = fz ⟨(t :: l).map strV⟩ ∧ g.get 0 = some (.cells ⟨[.string (txB ps)]⟩ 9 (0, 0)))) ?_
    rw [hsz, hps]
    refine need_mk hokt ⟨⟨rfl, rfl⟩, nnS (t :: l) _ _, nnS (t :: l) _ _, need_mk ?_ ⟨by rw [chunk_S], rfl⟩⟩
    rw [Nat.beq_refl, Nat.ble_eq_true_of_le (Nat.le_refl _), p1_S, List.length_map, Nat.mul_one, Nat.ble_eq_true_of_le (Nat.le_refl _)]
    rfl
structure LwF where
  tx : Ct → ByteArray
  rd : ByteArray → Ct
  ok : ByteArray → Bool
  ps : ByteArray → List Value
  up : ByteArray → Ct → Ct
noncomputable def spPtf (F : LwF) (f : FuncId) (args : Array Value) (h : AH) : Option (Bool × Value × AH) :=
  cond (Nat.beq f 68) (match args with
    | ⟨[.slice (some ⟨b, 0, none⟩) 1 1]⟩ => match h.get b with
      | some (.cells ⟨[.string s]⟩ t fr) => some (Nat.beq t 9 && Nat.beq fr.1 0 && Nat.beq fr.2 0 && F.ok s, fz ⟨F.ps s⟩, h)
      | _ => none
    | _ => none) none
noncomputable def spTof (F : LwF) (q : ByteArray → Bool) (f : FuncId) (args : Array Value) (h : AH) : Option (Bool × Value × AH) :=
  cond (Nat.beq f 70) (match args with
    | ⟨[.pointer (some ⟨b, 0, none⟩), .string s]⟩ => match h.get b with
      | some (.cells ⟨[.bool b0, .bool b1, .bool b2, .bool b3, .bool b4, .bool b5, .int .i64 n0, .int .i64 n1, .int .i64 n2, .int .i64 n3, .int .i64 n4, .int .i64 n5]⟩ t fr) =>
        some (Nat.beq t 55 && Nat.beq fr.1 0 && Nat.beq fr.2 0 && q s, .bool true, h.set b (.cells ⟨ctC (F.up s ⟨b0, b1, b2, b3, b4, b5, n0, n1, n2, n3, n4, n5⟩)⟩ 55 (0, 0)))
      | _ => none
    | _ => none) none
noncomputable def spTxf (F : LwF) (f : FuncId) (args : Array Value) (h : AH) : Option (Bool × Value × AH) :=
  cond (Nat.beq f 19) (match args with
    | ⟨[.agg ⟨[.bool b0, .bool b1, .bool b2, .bool b3, .bool b4, .bool b5, .int .i64 n0, .int .i64 n1, .int .i64 n2, .int .i64 n3, .int .i64 n4, .int .i64 n5]⟩]⟩ =>
      some (decide (-1 ≤ n0) && decide (n0 < 51) && decide (-1 ≤ n1) && decide (n1 < 51) && decide (-1 ≤ n2) && decide (n2 < 4) && decide (-1 ≤ n3) && decide (n3 < 4) && decide (-1 ≤ n4) && decide (n4 < 4) && decide (-1 ≤ n5) && decide (n5 < 4),
        .tuple ⟨[.string (F.tx ⟨b0, b1, b2, b3, b4, b5, n0, n1, n2, n3, n4, n5⟩), .int .i64 0]⟩, h)
    | _ => none) none
def isCC (c : ByteArray) : Bool := beqN (natsOf c) [99, 97, 99, 104, 101, 45, 99, 111, 110, 116, 114, 111, 108]
noncomputable def spPsf (F : LwF) (f : FuncId) (args : Array Value) (h : AH) : Option (Bool × Value × AH) :=
  cond (Nat.beq f 43) (match args with
    | ⟨[.slice (some ⟨b, 0, none⟩) 1 1]⟩ => match h.get b with
      | some (.cells ⟨[.string c, .string s]⟩ t fr) => some (Nat.beq t 61 && Nat.beq fr.1 0 && Nat.beq fr.2 0 && isCC c && F.ok s, .tuple ⟨[.agg ⟨ctC (F.rd s)⟩, .int .i64 0]⟩, h)
      | _ => none
    | _ => none) none
noncomputable def spIff (F : LwF) (f : FuncId) (args : Array Value) (h : AH) : Option (Bool × Value × AH) :=
  cond (Nat.beq f 67) (match args with
    | ⟨[.string s]⟩ => some (F.ok s, .bool true, h)
    | _ => none) none
noncomputable def SE1 (F : LwF) (q : ByteArray → Bool) : SC := ⟨idn, spOr (spPtf F) (spTof F q), true, true⟩
noncomputable def SE2 (F : LwF) : SC := ⟨idn, spOr spReady (spOr (spTxf F) (spOr (spPsf F) (spOr (spIff F) (spNext [])))), true, true⟩
def hdH (s : ByteArray) : AH := ⟨1, 1, [(0, .cells ⟨[.string ⟨#[99, 97, 99, 104, 101, 45, 99, 111, 110, 116, 114, 111, 108]⟩, .string s]⟩ 61 (0, 0))]⟩
def psH (s : ByteArray) (c : Ct) : AH := ⟨3, 3, [(0, .cells ⟨[.string ⟨#[99, 97, 99, 104, 101, 45, 99, 111, 110, 116, 114, 111, 108]⟩, .string s]⟩ 61 (0, 0)), (1, .cells ⟨[.bool false, .bool false, .bool false, .bool false, .bool false, .bool false, .int .i64 0, .int .i64 0, .int .i64 0, .int .i64 0, .int .i64 0, .int .i64 0]⟩ 55 (0, 0)), (2, .cells ⟨ctC c⟩ 55 (0, 0))]⟩
def psV (vs : List Value) (n i : Int) : List Value := [.pointer (some ⟨1, 0, none⟩), .pointer (some ⟨2, 0, none⟩), fz ⟨vs⟩, .int .i64 n, .int .i64 i]
def psX : List Value := [.pointer (some ⟨1, 0, none⟩), .pointer (some ⟨2, 0, none⟩)]
/-- A part that is known, by its text. -/
def qOf (s : ByteArray) : Option Part := allQ.find? fun q => strP q == s.data.toList
def okQ (s : ByteArray) : Bool := (qOf s).isSome
def updS (s : ByteArray) (c : Ct) : Ct := match qOf s with
  | some q => updQ q c
  | none => c
noncomputable def LW0 : LwF where
  tx := fun c => txB (partsQ c)
  rd := fun s => runQ (psOf s) c0
  ok := okS
  ps := prV
  up := updS
theorem spPt_ok : SpOK (spPtf LW0) := by
  intro f args h v h' hs
  unfold spPtf at hs
  obtain ⟨hf, hs2⟩ := cond_some hs
  clear hs
  have := Nat.eq_of_beq_eq_true hf
  subst this
  split at hs2
  · split at hs2
    · rename_i b _ s t fr hg
      injection hs2 with hs
      injection hs with hb hs
      injection hs with hv hh
      subst hv hh
      simp only [Bool.and_eq_true] at hb
      obtain ⟨⟨⟨b1, b2⟩, b3⟩, b4⟩ := hb
      obtain ⟨f1, f2⟩ := fr
      simp only at b2 b3
      have b1 := Nat.eq_of_beq_eq_true b1
      have b2 := Nat.eq_of_beq_eq_true b2
      have b3 := Nat.eq_of_beq_eq_true b3
      subst b1 b2 b3
      have b4 : okS s = true := b4
      obtain ⟨p1', p2, p3⟩ := psOf_ok b4
      have hF := pt_fn p1' p2
      rw [← p3] at hF
      refine ⟨?_, Nat.le_refl _⟩
      refine FnOK.reads (r := [(b, 0)]) (bl := (pHN s).blocks) (small := [.slice (some ⟨0, 0, none⟩) 1 1]) (by simp [renOk, renB, invB, eqO]) (by simp [ren2s, ren2, ren1, renB]) ?_ ?_ ?_ rfl
      · intro i o ho
        match i, ho with
        | 0, ho => cases ho; exact ⟨b, by simp, hg⟩
        | i + 1, ho => cases ho
      · intro i o ho
        match i, ho with
        | 0, ho =>
          cases ho
          refine ⟨_, _, _, rfl, fun x hx => ?_⟩
          have hx : x ∈ [Value.string s] := hx
          rw [List.mem_singleton.1 hx]; rfl
        | i + 1, ho => cases ho
      · refine hF.mono ?_
        rintro v g ⟨rfl, hg⟩
        refine ⟨rfl, fun i o ho => ?_⟩
        match i, ho with
        | 0, ho => cases ho; exact hg
        | i + 1, ho => cases ho
    · cases hs2
  · cases hs2
theorem okQ_some {s : ByteArray} (h : okQ s = true) : ∃ q, q ∈ allQ ∧ qOf s = some q ∧ s = bl (strP q) := by
  unfold okQ at h
  obtain ⟨q, hq⟩ := Option.isSome_iff_exists.1 h
  have h1 := List.find?_some hq
  have h2 := List.mem_of_find?_eq_some hq
  have h3 : strP q = s.data.toList := by simpa using h1
  exact ⟨q, h2, hq, by rw [h3, bl_self]⟩
theorem spTo_ok : SpOK (spTof LW0 okQ) := by
  intro f args h v h' hs
  unfold spTof at hs
  obtain ⟨hf, hs2⟩ := cond_some hs
  clear hs
  have := Nat.eq_of_beq_eq_true hf
  subst this
  split at hs2
  · split at hs2
    · rename_i b s _ b0 b1 b2 b3 b4 b5 n0 n1 n2 n3 n4 n5 t fr hg
      injection hs2 with hs
      injection hs with hb hs
      injection hs with hv hh
      subst hv hh
      simp only [Bool.and_eq_true] at hb
      obtain ⟨⟨⟨e1, e2⟩, e3⟩, e4⟩ := hb
      obtain ⟨f1, f2⟩ := fr
      simp only at e2 e3
      have e1 := Nat.eq_of_beq_eq_true e1
      have e2 := Nat.eq_of_beq_eq_true e2
      have e3 := Nat.eq_of_beq_eq_true e3
      subst e1 e2 e3
      obtain ⟨q, q1, q2, q3⟩ := okQ_some e4
      have hu : LW0.up s ⟨b0, b1, b2, b3, b4, b5, n0, n1, n2, n3, n4, n5⟩ = updQ q ⟨b0, b1, b2, b3, b4, b5, n0, n1, n2, n3, n4, n5⟩ := by
        show updS s _ = _
        unfold updS
        rw [q2]
      rw [hu]
      subst q3
      refine ⟨?_, Nat.le_refl _⟩
      have p1c : ∀ c : Ct, ∀ x ∈ (ctC c), p1 x = true := by
        intro c x hx
        simp only [ctC, List.mem_cons, List.not_mem_nil, or_false] at hx
        rcases hx with rfl | rfl | rfl | rfl | rfl | rfl | rfl | rfl | rfl | rfl | rfl | rfl <;> rfl
      exact FnOK.ref (cs := ⟨ctC ⟨b0, b1, b2, b3, b4, b5, n0, n1, n2, n3, n4, n5⟩⟩) (cs' := ⟨ctC (updQ q ⟨b0, b1, b2, b3, b4, b5, n0, n1, n2, n3, n4, n5⟩)⟩) (args := [.string (bl (strP q))]) (to_all q q1 _) rfl (p1c _) (p1c _) rfl hg
    · cases hs2
  · cases hs2
theorem SE1_ok : (SE1 LW0 okQ).cfg.OK Tryz.prog := (spPt_ok.or spTo_ok).cfg
theorem psr (F : LwF) (q : ByteArray → Bool) (s : ByteArray) (c : Ct) (vs : List Value) (n i : Int) (B : List Value → AH → Prop) (Q : AExit → List Value → AH → Prop) :
    once 1 Tryz.prog (SE1 F q) [] noHooks 600 39 [2, 4, 27, 28, 29] [] [2, 4] [] (oneLoop (codeOf Tryz.f43) 9) (psV vs n i) (psH s c) B Q =
      bif decide (i < n) then bif decide (0 ≤ i) && decide (i < ((Array.mk vs).size : Int)) && true then (Array.mk vs).toList.getD i.toNat (Value.tuple { toList := [] }) = .string (elS vs i) ∧
        bif q (elS vs i) then B (psV vs n (IntKind.i64.wrap (i + 1))) (psH s (F.up (elS vs i) c)) else False
      else False else Q (.exit 2) psX (psH s c) := by kernel_rfl
theorem ps_loop {s : ByteArray} {ps : List Part} (h2 : ∀ q ∈ ps, q ∈ allQ) (hl : ps.length ≤ 1000) (K : AExit → List Value → AH → Prop) :
    ∀ (r i : Nat) (c : Ct), i + r = ps.length → K (.exit 2) psX (psH s (runQ (ps.drop i) c)) → iter 1 Tryz.prog (SE1 LW0 okQ) [] noHooks 600 39 [2, 4, 27, 28, 29] [] [2, 4] [] (oneLoop (codeOf Tryz.f43) 9) (r + 1) (psV ((ps.map strP).map strV) (ps.length : Int) (i : Int)) (psH s c) K := by
  intro r
  induction r with
  | zero =>
    intro i c h1 hK
    rw [List.drop_eq_nil_of_le (by omega)] at hK
    exact (psr _ _ _ _ _ _ _ _ K).mpr (pick_f (by simp; omega) hK)
  | succ r ih =>
    intro i c h1 hK
    have hi : i < ps.length := by omega
    have hd : ps.drop i = ps[i] :: ps.drop (i + 1) := List.drop_eq_getElem_cons hi
    have hq : ps[i]? = some ps[i] := List.getElem?_eq_getElem hi
    generalize ps[i] = q at hd hq
    have hqa : q ∈ allQ := h2 q (List.mem_of_getElem? hq)
    have hg : (Array.mk ((ps.map strP).map strV)).toList.getD (i : Int).toNat undef = strV (strP q) := getS (by rw [List.getElem?_map, hq]; rfl)
    have hel : elS ((ps.map strP).map strV) (i : Int) = bl (strP q) := by unfold elS; rw [hg]; rfl
    have hf : qOf (bl (strP q)) = some q := by
      unfold qOf
      rw [bl_list]
      exact find_all q hqa
    have hup : LW0.up (bl (strP q)) c = updQ q c := by
      show updS (bl (strP q)) c = _
      unfold updS
      rw [hf]
    have hsz : (Array.mk ((ps.map strP).map strV)).size = ps.length := by simp
    refine (psr _ _ _ _ _ _ _ _ K).mpr (pick_t (decide_eq_true (by omega)) (need_mk (by rw [hsz]; simp; omega) ?_))
    rw [hel]
    refine ⟨hg, need_mk (by unfold okQ; rw [hf]; rfl) ?_⟩
    rw [hup, wrap1 (by omega)]
    refine ih (i + 1) (updQ q c) (by omega) ?_
    rw [hd] at hK
    exact hK
theorem onePS : (loopAt (codeOf Tryz.f43) 9).length = 1 := by kernel_rfl
theorem somePS : Tryz.f43.body.isSome = true := by kernel_rfl
theorem psf (F : LwF) (q : ByteArray → Bool) (s : ByteArray) (c2 : Ct) (C : List Value → AH → Prop) (Q : Value → AH → Prop) :
    tfn Tryz.prog (SE1 F q) [] (hook1 9 (hookLS 1 39 [2, 4, 27, 28, 29] [] [2, 4] (fun vals h K => C vals h ∧ K (.exit 2) psX (psH s c2)))) 3000 [] Tryz.f43 [.slice (some ⟨0, 0, none⟩) 1 1] (hdH s) Q =
      bif F.ok s then C (psV (F.ps s) ((Array.mk (F.ps s)).size : Int) 0) (psH s c0) ∧
        Q (.tuple ⟨[.agg ⟨ctC c2⟩, .int .i64 0]⟩) ⟨3, 1, [(0, .cells ⟨[.string ⟨#[99, 97, 99, 104, 101, 45, 99, 111, 110, 116, 114, 111, 108]⟩, .string s]⟩ 61 (0, 0)), (1, .cells ⟨ctC c2⟩ 55 (0, 0)), (2, .cells ⟨ctC c2⟩ 55 (0, 0))]⟩ else False := by kernel_rfl
theorem ps_fn {ps : List Part} (h1 : ps.length ≤ 12) (h2 : ∀ q ∈ ps, q ∈ allQ) : FnOK 1 Tryz.prog 43 ⟨[.slice (some ⟨0, 0, none⟩) 1 1]⟩ (hdH (txB ps)) (fun v g => v = .tuple ⟨[.agg ⟨ctC (runQ ps c0)⟩, .int .i64 0]⟩ ∧ g.get 0 = some (.cells ⟨[.string ⟨#[99, 97, 99, 104, 101, 45, 99, 111, 110, 116, 114, 111, 108]⟩, .string (txB ps)]⟩ 61 (0, 0))) := by
  obtain ⟨hok, hps⟩ := psOf_tx h1 h2
  have hpr : LW0.ps (txB ps) = (ps.map strP).map strV := by show prV (txB ps) = _; unfold prV; rw [hps]
  have hsp : LSpec 1 Tryz.prog 39 (oneLoop (codeOf Tryz.f43) 9) (hookLS 1 39 [2, 4, 27, 28, 29] [] [2, 4] (fun vals h K => (vals = psV ((ps.map strP).map strV) (ps.length : Int) 0 ∧ h = psH (txB ps) c0) ∧ K (.exit 2) psX (psH (txB ps) (runQ ps c0)))) := by
    refine hook_ok (G := []) (L := noHooks) (f := 600) (sameX := []) SE1_ok mixed (by decide) (loops_none _ _ _ _) ?_
    rintro vals h K ⟨⟨rfl, rfl⟩, hK⟩
    exact ⟨_, ps_loop h2 (by omega) K ps.length 0 c0 (by omega) hK⟩
  refine FnOK.ttree SE1_ok mixed Tryz.func43 somePS (loops_one onePS hsp) (psf LW0 okQ (txB ps) (runQ ps c0) _ (fun v g => v = .tuple ⟨[.agg ⟨ctC (runQ ps c0)⟩, .int .i64 0]⟩ ∧ g.get 0 = some (.cells ⟨[.string ⟨#[99, 97, 99, 104, 101, 45, 99, 111, 110, 116, 114, 111, 108]⟩, .string (txB ps)]⟩ 61 (0, 0)))) ?_
  rw [hpr]
  have hsz : ((Array.mk ((ps.map strP).map strV)).size : Int) = (ps.length : Int) := by simp
  rw [hsz]
  exact need_mk hok ⟨⟨rfl, rfl⟩, rfl, rfl⟩
theorem isCC_eq {c : ByteArray} (h : isCC c = true) : c = ⟨#[99, 97, 99, 104, 101, 45, 99, 111, 110, 116, 114, 111, 108]⟩ := natsOf_inj (beqN_eq h)
theorem spPs_ok : SpOK (spPsf LW0) := by
  intro f args h v h' hs
  unfold spPsf at hs
  obtain ⟨hf, hs2⟩ := cond_some hs
  clear hs
  have := Nat.eq_of_beq_eq_true hf
  subst this
  split at hs2
  · split at hs2
    · rename_i b _ c s t fr hg
      injection hs2 with hs
      injection hs with hb hs
      injection hs with hv hh
      subst hv hh
      simp only [Bool.and_eq_true] at hb
      obtain ⟨⟨⟨⟨b1, b2⟩, b3⟩, bc⟩, b4⟩ := hb
      obtain ⟨f1, f2⟩ := fr
      simp only at b2 b3
      have b1 := Nat.eq_of_beq_eq_true b1
      have b2 := Nat.eq_of_beq_eq_true b2
      have b3 := Nat.eq_of_beq_eq_true b3
      have bc := isCC_eq bc
      subst b1 b2 b3 bc
      have b4 : okS s = true := b4
      obtain ⟨q1, q2, q3⟩ := psOf_ok b4
      have hF := ps_fn q1 q2
      rw [← q3] at hF
      refine ⟨?_, Nat.le_refl _⟩
      refine FnOK.reads (r := [(b, 0)]) (bl := (hdH s).blocks) (small := [.slice (some ⟨0, 0, none⟩) 1 1]) (by simp [renOk, renB, invB, eqO]) (by simp [ren2s, ren2, ren1, renB]) ?_ ?_ ?_ rfl
      · intro i o ho
        match i, ho with
        | 0, ho => cases ho; exact ⟨b, by simp, hg⟩
        | i + 1, ho => cases ho
      · intro i o ho
        match i, ho with
        | 0, ho =>
          cases ho
          refine ⟨_, _, _, rfl, fun x hx => ?_⟩
          have hx : x ∈ [Value.string ⟨#[99, 97, 99, 104, 101, 45, 99, 111, 110, 116, 114, 111, 108]⟩, Value.string s] := hx
          simp only [List.mem_cons, List.not_mem_nil, or_false] at hx
          rcases hx with rfl | rfl <;> rfl
        | i + 1, ho => cases ho
      · refine hF.mono ?_
        rintro v g ⟨rfl, hg⟩
        refine ⟨rfl, fun i o ho => ?_⟩
        match i, ho with
        | 0, ho => cases ho; exact hg
        | i + 1, ho => cases ho
    · cases hs2
  · cases hs2
theorem spTx_ok : SpOK (spTxf LW0) := by
  intro f args h v h' hs
  unfold spTxf at hs
  obtain ⟨hf, hs2⟩ := cond_some hs
  clear hs
  have := Nat.eq_of_beq_eq_true hf
  subst this
  split at hs2
  · injection hs2 with hs
    injection hs with hb hs
    injection hs with hv hh
    subst hv hh
    rename_i b0 b1 b2 b3 b4 b5 n0 n1 n2 n3 n4 n5
    simp only [Bool.and_eq_true, decide_eq_true_eq] at hb
    obtain ⟨⟨⟨⟨⟨⟨⟨⟨⟨⟨⟨l0, u0⟩, l1⟩, u1⟩, l2⟩, u2⟩, l3⟩, u3⟩, l4⟩, u4⟩, l5⟩, u5⟩ := hb
    exact ⟨FnOK.pure (tx_fn (c := ⟨b0, b1, b2, b3, b4, b5, n0, n1, n2, n3, n4, n5⟩) ⟨l0, l1, l2, l3, l4, l5, u0, u1, u2, u3, u4, u5⟩) rfl rfl h, Nat.le_refl _⟩
  · cases hs2
theorem SE2_ok : (SE2 LW0).cfg.OK Tryz.prog := (spReady_ok.or (spTx_ok.or (spPs_ok.or (spIf_ok.or (spNext_ok []))))).cfg
end Go.Proofs.YtbeodpcdjlphkaaGreatDoor
