/-
  The health of instances: the rounds of the law.
-/
import Derived.Test.YtbeodpcdjlphkaaGreatDoorHbE
namespace Go.Proofs.YtbeodpcdjlphkaaGreatDoor
open Go.Ev Go.RowKit HealthLaw

/-- The functions that the specifications name. -/
structure LwF where
  vs : Array Value → List Value
  en : Array Value → Int
  ps : Array Value → List Value → Int → List Value
  pe : Array Value → List Value → Int → Int
  ck : List Value → List Value → Int
  tr : List Value → Int → Int → List Value → List Value
  fl : ByteArray → Nat → List Value → List Value
noncomputable def spRIf (F : LwF) (f : FuncId) (args : Array Value) (h : AH) : Option (Bool × Value × AH) :=
  cond (Nat.beq f 5) (match args with
    | ⟨[.pointer (some ⟨b, 0, none⟩)]⟩ => match h.get b with
      | some (.cells ⟨[.func (.yield 0) xs ⟨[]⟩, .int .i64 at_]⟩ t (0, 0)) =>
        some (Nat.beq t 25 && decide (at_ = 0) && allInts xs, fz ⟨F.vs xs⟩, h.set b (.cells ⟨[fz xs, .int .i64 (F.en xs)]⟩ 25 (0, 0)))
      | _ => none
    | _ => none) none
noncomputable def spPbf (F : LwF) (e : Bool) (f : FuncId) (args : Array Value) (h : AH) : Option (Bool × Value × AH) :=
  cond (Nat.beq f 7) (match args with
    | ⟨[.pointer (some ⟨b, 0, none⟩), .func (.yield 0) ⟨vs⟩ ⟨[]⟩]⟩ => match h.get b with
      | some (.cells ⟨[.func (.yield 0) xs ⟨[]⟩, .int .i64 at_]⟩ t (0, 0)) =>
        some (okI vs && Nat.beq t 25 && decide (0 ≤ at_) && decide (at_ ≤ 100) && (isE (F.ps xs vs at_) == e) && allInts xs, scD e (F.ps xs vs at_), h.set b (.cells ⟨[fz xs, .int .i64 (F.pe xs vs at_)]⟩ 25 (0, 0)))
      | _ => none
    | _ => none) none
noncomputable def spCpf (F : LwF) (f : FuncId) (args : Array Value) (h : AH) : Option (Bool × Value × AH) :=
  cond (Nat.beq f 9) (match args with
    | ⟨[.func (.yield 0) ⟨vs⟩ ⟨[]⟩, p]⟩ => match asFz p with
      | some ps => some (okI vs && okT ps, .int .i64 (F.ck vs ps), h)
      | none => none
    | _ => none) none
noncomputable def spTuf (F : LwF) (f : FuncId) (args : Array Value) (h : AH) : Option (Bool × Value × AH) :=
  cond (Nat.beq f 8) (match args with
    | ⟨[.func (.yield 0) ⟨vs⟩ ⟨[]⟩, .agg ⟨[.int .i64 rise, .int .i64 fall]⟩, p]⟩ => match asFz p with
      | some ps => some (okI vs && okT ps && decide (1 ≤ rise) && decide (rise ≤ 3) && decide (1 ≤ fall) && decide (fall ≤ 3), .tuple ⟨[fz ⟨F.tr vs rise fall ps⟩, .int .i64 (F.ck vs ps)]⟩, h)
      | none => none
    | _ => none) none
noncomputable def spTue (F : LwF) (e : Bool) (f : FuncId) (args : Array Value) (h : AH) : Option (Bool × Value × AH) :=
  cond (Nat.beq f 8) (match args with
    | ⟨[.func (.yield 0) ⟨vs⟩ ⟨[]⟩, .agg ⟨[.int .i64 rise, .int .i64 fall]⟩, p]⟩ => match asFz p with
      | some ps => some (okI vs && okT ps && decide (1 ≤ rise) && decide (rise ≤ 3) && decide (1 ≤ fall) && decide (fall ≤ 3) && (isE (F.tr vs rise fall ps) == e), .tuple ⟨[scD e (F.tr vs rise fall ps), .int .i64 (F.ck vs ps)]⟩, h)
      | none => none
    | _ => none) none
noncomputable def spDff (F : LwF) (f c0 : FuncId) (t : TypeId) (g : FuncId) (args : Array Value) (h : AH) : Option (Bool × Value × AH) :=
  cond (Nat.beq g f) (match args with
    | ⟨[.slice (some ⟨b, 0, none⟩) n m, .func (.func c) ⟨[]⟩ ⟨[.pointer (some ⟨y, 0, none⟩)]⟩]⟩ => match h.get b, h.get y with
      | some (.cells ⟨cs⟩ t1 fr), some (.cells ⟨[.string key, .int .i64 _]⟩ t2 fr2) => some (Nat.beq t1 t && Nat.beq t2 40 && Nat.beq fr.1 1 && Nat.beq fr.2 1 && Nat.beq fr2.1 0 && Nat.beq fr2.2 0 && Nat.beq c c0 && Nat.beq m n && okC n cs && Nat.ble n 1000 && !Nat.beq b y && Nat.blt y h.next, fz ⟨F.fl key n cs⟩, h.del b)
      | _, _ => none
    | _ => none) none
noncomputable def SLo (F : LwF) : SC := ⟨idn, spOr (spTuf F) (spOr (spCl 12 43) (spOr (spCl 15 48) (spOr (spDff F 11 13 43) (spOr (spDff F 14 16 48) spEq)))), true, true⟩
noncomputable def SLf (F : LwF) (e1 e2 : Bool) : SC := ⟨idn, spOr spReady (spOr (spRIf F) (spOr (spPbf F e1) (spOr (spTue F e2) (spOr (spCpf F) (spNext []))))), true, true⟩
def hH (rise fall : Int) : AH := ⟨1, 1, [(0, .cells ⟨[.int .i64 rise, .int .i64 fall]⟩ 30 (0, 0))]⟩
def outV (vs : List Value) (P A : Value) (n i : Int) : List Value := [fz ⟨vs⟩, .pointer (some ⟨0, 0, none⟩), P, A, fz ⟨vs⟩, .int .i64 n, .int .i64 i]
noncomputable def LW0 : LwF where
  vs := fun xs => (riR xs).1.map instV
  en := fun xs => (riR xs).2
  ps := fun xs vs d => (pbC xs vs d).1.map tV
  pe := fun xs vs d => (pbC xs vs d).2
  ck := ckV
  tr := trV
  fl := fun key n cs => ((rdL n cs).filter (keep key)).map tV
theorem spPbf_ok (e : Bool) : SpOK (spPbf LW0 e) := by
  intro f args h v h' hs
  unfold spPbf at hs
  obtain ⟨hf, hs2⟩ := cond_some hs
  clear hs
  have := Nat.eq_of_beq_eq_true hf
  subst this
  split at hs2
  · split at hs2
    · rename_i vs _ xs at_ t hg
      injection hs2 with hs
      injection hs with hb hs
      injection hs with hv hh
      subst hv hh
      simp only [Bool.and_eq_true, decide_eq_true_eq] at hb
      obtain ⟨⟨⟨⟨⟨b0, b1⟩, b2⟩, b3⟩, b4⟩, b5⟩ := hb
      have b1 := Nat.eq_of_beq_eq_true b1
      subst b1
      obtain ⟨zs, rfl⟩ := intsV_of_all b5
      have b4 := beq_iff_eq.1 b4
      simp only [LW0] at b4
      obtain ⟨_, _, _, hF⟩ := pbC_ok zs b0 b2 b3
      rw [b4] at hF
      refine ⟨?_, Nat.le_refl _⟩
      exact FnOK.ref (cs := ⟨[fz (intsV zs), .int .i64 at_]⟩) (cs' := ⟨[fz (intsV zs), .int .i64 (pbC (intsV zs) vs at_).2]⟩) (args := [fz ⟨vs⟩]) hF rfl (by simp [p1, fz]) (by simp [p1, fz]) (by cases e <;> rfl) hg
    · cases hs2
  · cases hs2
theorem spTue_ok (e : Bool) : SpOK (spTue LW0 e) := by
  intro f args h v h' hs
  unfold spTue at hs
  obtain ⟨hf, hs2⟩ := cond_some hs
  clear hs
  have := Nat.eq_of_beq_eq_true hf
  subst this
  split at hs2
  · split at hs2
    · rename_i vs rise fall p ps hp
      injection hs2 with hs
      injection hs with hb hs
      injection hs with hv hh
      subst hv hh
      simp only [Bool.and_eq_true, decide_eq_true_eq] at hb
      obtain ⟨⟨⟨⟨⟨⟨h1, h2⟩, h3⟩, h4⟩, h5⟩, h6⟩, h7⟩ := hb
      have h7 := beq_iff_eq.1 h7
      simp only [LW0] at h7
      have hF := tu_fn h1 h2 h3 h4 h5 h6
      rw [h7] at hF
      exact ⟨asFz_last (pre := [_, _]) hp (FnOK.pure hF rfl (by cases e <;> rfl) h), Nat.le_refl _⟩
    · cases hs2
  · cases hs2
theorem tu_fz {vs ps : List Value} (hv : okI vs = true) (hp : okT ps = true) {rise fall : Int} (b1 : 1 ≤ rise) (b2 : rise ≤ 3) (b3 : 1 ≤ fall) (b4 : fall ≤ 3) :
    FnOK 0 Tryz.prog 8 ⟨[fz ⟨vs⟩, .agg ⟨[.int .i64 rise, .int .i64 fall]⟩, fz ⟨ps⟩]⟩ h0 (fun v _ => v = .tuple ⟨[fz ⟨trV vs rise fall ps⟩, .int .i64 (ckV vs ps)]⟩) := by
  have hF := tu_fn hv hp b1 b2 b3 b4
  cases he : isE (trV vs rise fall ps) with
  | false => rw [he] at hF; exact hF
  | true =>
    rw [he] at hF
    rw [isE_iff.1 he]
    refine FnOK.weakT (hF.mono ?_)
    rintro v g rfl
    refine ⟨⟨[.slice none 0 0, .int .i64 (ckV vs ps)]⟩, ⟨[fz ⟨[]⟩, .int .i64 (ckV vs ps)]⟩, g, rfl, Weak.nil rfl (fun i => ?_), rfl⟩
    match i with
    | 0 => exact .inr ⟨0, rfl, rfl⟩
    | 1 => exact .inl rfl
    | i + 2 => exact .inl rfl
theorem spTuf_ok : SpOK (spTuf LW0) := by
  intro f args h v h' hs
  unfold spTuf at hs
  obtain ⟨hf, hs2⟩ := cond_some hs
  clear hs
  have := Nat.eq_of_beq_eq_true hf
  subst this
  split at hs2
  · split at hs2
    · rename_i vs rise fall p ps hp
      injection hs2 with hs
      injection hs with hb hs
      injection hs with hv hh
      subst hv hh
      simp only [Bool.and_eq_true, decide_eq_true_eq] at hb
      obtain ⟨⟨⟨⟨⟨h1, h2⟩, h3⟩, h4⟩, h5⟩, h6⟩ := hb
      exact ⟨asFz_last (pre := [_, _]) hp (FnOK.pure (tu_fz h1 h2 h3 h4 h5 h6) rfl rfl h), Nat.le_refl _⟩
    · cases hs2
  · cases hs2
theorem SLo_ok : (SLo LW0).cfg.OK Tryz.prog := (spTuf_ok.or (spClP_ok.or (spClT_ok.or (spDfP_ok.or (spDfT_ok.or spEq_ok))))).cfg
theorem SLf_ok (e1 e2 : Bool) : (SLf LW0 e1 e2).cfg.OK Tryz.prog := (spReady_ok.or (spRI_ok.or ((spPbf_ok e1).or ((spTue_ok e2).or (spCp_ok.or (spNext_ok [])))))).cfg
def elI (vs : List Value) (i : Int) : ByteArray × Int := (toStr (((Array.mk vs).toList.getD i.toNat undef).cells.toList.getD 0 undef), toInt (((Array.mk vs).toList.getD i.toNat undef).cells.toList.getD 1 undef))
noncomputable def Lin (C : List Value → AH → Prop) (vs : List Value) (P A : Value) (rise fall n i : Int) : Hooks := hook1 18 (hookLS 0 98 [4, 5, 6, 7, 53, 54, 55, 82, 83, 84] [] [2, 4, 5, 6, 7, 53, 54, 55] (fun vals h K => C vals h ∧ K (.exit 2) (anyV :: outV vs P A n i) (hH rise fall)))
theorem one18 : (loopAt (oneLoop (codeOf Tryz.f3) 10) 18).length = 1 := by kernel_rfl
theorem Lin_ok {C : List Value → AH → Prop} {vs : List Value} {P A : Value} {rise fall n i : Int}
    (h : ∀ vals h K, C vals h ∧ K (.exit 2) (anyV :: outV vs P A n i) (hH rise fall) → ∃ k, iter 0 Tryz.prog SP0 [] noHooks 600 98 [4, 5, 6, 7, 53, 54, 55, 82, 83, 84] [] [2, 4, 5, 6, 7, 53, 54, 55] [] (oneLoop (oneLoop (codeOf Tryz.f3) 10) 18) k vals h K) :
    LoopsOK 0 Tryz.prog 98 (Lin C vs P A rise fall n i) (oneLoop (codeOf Tryz.f3) 10) :=
  loops_one one18 (hook_ok (G := []) (L := noHooks) (f := 600) (sameX := []) SP0_ok mixed (by decide) (loops_none _ _ _ _) h)
theorem loN (F : LwF) (vs ps ts : List Value) (rise fall n i : Int) (C : List Value → AH → Prop) (B : List Value → AH → Prop) (Q : AExit → List Value → AH → Prop) :
    once 0 Tryz.prog (SLo F) [] (Lin C vs nilV nilV rise fall n i) 3000 98 [4, 5, 6, 7, 53, 54, 55] [] [2] [] (oneLoop (codeOf Tryz.f3) 10) (outV vs nilV nilV n i) (hH rise fall) B Q =
      bif decide (i < n) then bif decide (0 ≤ i) && decide (i < ((Array.mk vs).size : Int)) && true then (Array.mk vs).toList.getD i.toNat (Value.tuple { toList := [] }) = instV (elI vs i) ∧
        bif okI vs && okT [] && decide (1 ≤ rise) && decide (rise ≤ 3) && decide (1 ≤ fall) && decide (fall ≤ 3) then
        bif F.ck vs [] != 0 then Q .ret [.bool false] h0 else bif okT (F.tr vs rise fall []) && sameL (F.tr vs rise fall []) ([]) then
        C (outV vs nilV nilV n i ++ [nilV, .int .i64 0, .int .i64 0]) (hH rise fall) ∧ B (outV vs nilV nilV n (IntKind.i64.wrap (i + 1))) (hH rise fall) else False else False
      else False else Q (.exit 0) [anyV] h0 := by kernel_rfl
theorem loM (F : LwF) (vs ps ts : List Value) (rise fall n i : Int) (C : List Value → AH → Prop) (B : List Value → AH → Prop) (Q : AExit → List Value → AH → Prop) :
    once 0 Tryz.prog (SLo F) [] (Lin C vs (fz ⟨ps⟩) nilV rise fall n i) 3000 98 [4, 5, 6, 7, 53, 54, 55] [] [2] [] (oneLoop (codeOf Tryz.f3) 10) (outV vs (fz ⟨ps⟩) nilV n i) (hH rise fall) B Q =
      bif decide (i < n) then bif decide (0 ≤ i) && decide (i < ((Array.mk vs).size : Int)) && true then (Array.mk vs).toList.getD i.toNat (Value.tuple { toList := [] }) = instV (elI vs i) ∧
        bif okT ps && !isE ps then bif ps.length.beq ps.length && okC ps.length (ps.flatMap fun x => x.cells.toList) && ps.length.ble 1000 && true && true then
        bif okI vs && okT (F.fl (elI vs i).1 ps.length (ps.flatMap fun x => x.cells.toList)) && decide (1 ≤ rise) && decide (rise ≤ 3) && decide (1 ≤ fall) && decide (fall ≤ 3) then
        bif F.ck vs (F.fl (elI vs i).1 ps.length (ps.flatMap fun x => x.cells.toList)) != 0 then Q .ret [.bool false] h0 else bif okT (F.tr vs rise fall (F.fl (elI vs i).1 ps.length (ps.flatMap fun x => x.cells.toList))) && sameL (F.tr vs rise fall (F.fl (elI vs i).1 ps.length (ps.flatMap fun x => x.cells.toList))) ([]) then
        C (outV vs (fz ⟨ps⟩) nilV n i ++ [nilV, .int .i64 0, .int .i64 0]) (hH rise fall) ∧ B (outV vs (fz ⟨ps⟩) nilV n (IntKind.i64.wrap (i + 1))) (hH rise fall) else False else False else False else False
      else False else Q (.exit 0) [anyV] h0 := by kernel_rfl
theorem loS (F : LwF) (vs ps ts : List Value) (rise fall n i : Int) (C : List Value → AH → Prop) (B : List Value → AH → Prop) (Q : AExit → List Value → AH → Prop) :
    once 0 Tryz.prog (SLo F) [] (Lin C vs (fz ⟨ps⟩) (fz ⟨ts⟩) rise fall n i) 3000 98 [4, 5, 6, 7, 53, 54, 55] [] [2] [] (oneLoop (codeOf Tryz.f3) 10) (outV vs (fz ⟨ps⟩) (fz ⟨ts⟩) n i) (hH rise fall) B Q =
      bif decide (i < n) then bif decide (0 ≤ i) && decide (i < ((Array.mk vs).size : Int)) && true then (Array.mk vs).toList.getD i.toNat (Value.tuple { toList := [] }) = instV (elI vs i) ∧
        bif okT ps && !isE ps then bif ps.length.beq ps.length && okC ps.length (ps.flatMap fun x => x.cells.toList) && ps.length.ble 1000 && true && true then
        bif okI vs && okT (F.fl (elI vs i).1 ps.length (ps.flatMap fun x => x.cells.toList)) && decide (1 ≤ rise) && decide (rise ≤ 3) && decide (1 ≤ fall) && decide (fall ≤ 3) then
        bif okT ts && !isE ts then bif ts.length.beq ts.length && okC ts.length (ts.flatMap fun x => x.cells.toList) && ts.length.ble 1000 && true && true then
        bif F.ck vs (F.fl (elI vs i).1 ps.length (ps.flatMap fun x => x.cells.toList)) != 0 then Q .ret [.bool false] h0 else bif okT (F.tr vs rise fall (F.fl (elI vs i).1 ps.length (ps.flatMap fun x => x.cells.toList))) && sameL (F.tr vs rise fall (F.fl (elI vs i).1 ps.length (ps.flatMap fun x => x.cells.toList))) (F.fl (elI vs i).1 ts.length (ts.flatMap fun x => x.cells.toList)) then
        C (outV vs (fz ⟨ps⟩) (fz ⟨ts⟩) n i ++ [(fz ⟨F.fl (elI vs i).1 ts.length (ts.flatMap fun x => x.cells.toList)⟩), .int .i64 ((Array.mk (F.fl (elI vs i).1 ts.length (ts.flatMap fun x => x.cells.toList))).size : Int), .int .i64 0]) (hH rise fall) ∧ B (outV vs (fz ⟨ps⟩) (fz ⟨ts⟩) n (IntKind.i64.wrap (i + 1))) (hH rise fall) else False else False else False else False else False else False
      else False else Q (.exit 0) [anyV] h0 := by kernel_rfl

theorem inN_ok (vs ps ts : List Value) (rise fall n i : Int) (K : AExit → List Value → AH → Prop) (hK : K (.exit 2) (anyV :: outV vs nilV nilV n i) (hH rise fall)) :
    ∃ k, iter 0 Tryz.prog SP0 [] noHooks 600 98 [4, 5, 6, 7, 53, 54, 55, 82, 83, 84] [] [2, 4, 5, 6, 7, 53, 54, 55] [] (oneLoop (oneLoop (codeOf Tryz.f3) 10) 18) k (outV vs nilV nilV n i ++ [nilV, .int .i64 0, .int .i64 0]) (hH rise fall) K := by
  have e : ∀ B : List Value → AH → Prop, once 0 Tryz.prog SP0 [] noHooks 600 98 [4, 5, 6, 7, 53, 54, 55, 82, 83, 84] [] [2, 4, 5, 6, 7, 53, 54, 55] [] (oneLoop (oneLoop (codeOf Tryz.f3) 10) 18) (outV vs nilV nilV n i ++ [nilV, .int .i64 0, .int .i64 0]) (hH rise fall) B K = K (.exit 2) (anyV :: outV vs nilV nilV n i) (hH rise fall) := by intro B; kernel_rfl
  exact ⟨1, (e _).mpr hK⟩
theorem inM_ok (vs ps ts : List Value) (rise fall n i : Int) (K : AExit → List Value → AH → Prop) (hK : K (.exit 2) (anyV :: outV vs (fz ⟨ps⟩) nilV n i) (hH rise fall)) :
    ∃ k, iter 0 Tryz.prog SP0 [] noHooks 600 98 [4, 5, 6, 7, 53, 54, 55, 82, 83, 84] [] [2, 4, 5, 6, 7, 53, 54, 55] [] (oneLoop (oneLoop (codeOf Tryz.f3) 10) 18) k (outV vs (fz ⟨ps⟩) nilV n i ++ [nilV, .int .i64 0, .int .i64 0]) (hH rise fall) K := by
  have e : ∀ B : List Value → AH → Prop, once 0 Tryz.prog SP0 [] noHooks 600 98 [4, 5, 6, 7, 53, 54, 55, 82, 83, 84] [] [2, 4, 5, 6, 7, 53, 54, 55] [] (oneLoop (oneLoop (codeOf Tryz.f3) 10) 18) (outV vs (fz ⟨ps⟩) nilV n i ++ [nilV, .int .i64 0, .int .i64 0]) (hH rise fall) B K = K (.exit 2) (anyV :: outV vs (fz ⟨ps⟩) nilV n i) (hH rise fall) := by intro B; kernel_rfl
  exact ⟨1, (e _).mpr hK⟩
theorem inr (vs ps ts cs : List Value) (rise fall n i m j : Int) (B : List Value → AH → Prop) (Q : AExit → List Value → AH → Prop) :
    once 0 Tryz.prog SP0 [] noHooks 600 98 [4, 5, 6, 7, 53, 54, 55, 82, 83, 84] [] [2, 4, 5, 6, 7, 53, 54, 55] [] (oneLoop (oneLoop (codeOf Tryz.f3) 10) 18) (outV vs (fz ⟨ps⟩) (fz ⟨ts⟩) n i ++ [fz ⟨cs⟩, .int .i64 m, .int .i64 j]) (hH rise fall) B Q =
      bif decide (j < m) then bif decide (0 ≤ j) && decide (j < ((Array.mk cs).size : Int)) && true then (Array.mk cs).toList.getD j.toNat (Value.tuple { toList := [] }) = tV (elT cs j) ∧
        bif !((elT cs j).2.2 == (j.tmod 2 == 1)) then Q .ret (.bool false :: outV vs (fz ⟨ps⟩) (fz ⟨ts⟩) n i) (hH rise fall) else B (outV vs (fz ⟨ps⟩) (fz ⟨ts⟩) n i ++ [fz ⟨cs⟩, .int .i64 m, .int .i64 (IntKind.i64.wrap (j + 1))]) (hH rise fall)
      else False else Q (.exit 2) (anyV :: outV vs (fz ⟨ps⟩) (fz ⟨ts⟩) n i) (hH rise fall) := by kernel_rfl
theorem in_loop (vs ps ts : List Value) (rise fall n i : Int) {Z : List T3} (hZ : alt false Z) (hl : Z.length ≤ 16) (K : AExit → List Value → AH → Prop) (hK : K (.exit 2) (anyV :: outV vs (fz ⟨ps⟩) (fz ⟨ts⟩) n i) (hH rise fall)) :
    ∀ r j, j + r = Z.length → iter 0 Tryz.prog SP0 [] noHooks 600 98 [4, 5, 6, 7, 53, 54, 55, 82, 83, 84] [] [2, 4, 5, 6, 7, 53, 54, 55] [] (oneLoop (oneLoop (codeOf Tryz.f3) 10) 18) (r + 1) (outV vs (fz ⟨ps⟩) (fz ⟨ts⟩) n i ++ [fz ⟨Z.map tV⟩, .int .i64 (Z.length : Int), .int .i64 (j : Int)]) (hH rise fall) K := by
  intro r
  induction r with
  | zero =>
    intro j h1
    exact (inr _ _ _ _ _ _ _ _ _ _ _ K).mpr (pick_f (by simp; omega) hK)
  | succ r ih =>
    intro j h1
    have hj : j < Z.length := by omega
    obtain ⟨t, ht, hget, hdr⟩ := dropT hj
    have hs := size_map Z
    have hel := elT_of hget
    have hb : (decide (0 ≤ (j : Int)) && decide ((j : Int) < ((Array.mk (Z.map tV)).size : Int)) && true) = true := by simp; omega
    have hup : (t.2.2 == ((j : Int).tmod 2 == 1)) = true := by
      have := alt_get hZ j t hget
      rw [this]
      have e : (j : Int).tmod 2 = ((j % 2 : Nat) : Int) := rfl
      rw [e]
      rcases Nat.mod_two_eq_zero_or_one j with q | q <;> rw [q] <;> rfl
    refine (inr _ _ _ _ _ _ _ _ _ _ _ K).mpr (pick_t (decide_eq_true (by omega)) (need_mk hb ?_))
    rw [hel]
    refine ⟨getTi hget, pick_f (by rw [hup]; rfl) ?_⟩
    rw [wrap1 (by omega)]
    exact ih (j + 1) (by omega)
theorem inS_ok (vs ps ts : List Value) (rise fall n i : Int) {Z : List T3} (hZ : alt false Z) (hl : Z.length ≤ 16) (K : AExit → List Value → AH → Prop) (hK : K (.exit 2) (anyV :: outV vs (fz ⟨ps⟩) (fz ⟨ts⟩) n i) (hH rise fall)) :
    ∃ k, iter 0 Tryz.prog SP0 [] noHooks 600 98 [4, 5, 6, 7, 53, 54, 55, 82, 83, 84] [] [2, 4, 5, 6, 7, 53, 54, 55] [] (oneLoop (oneLoop (codeOf Tryz.f3) 10) 18) k (outV vs (fz ⟨ps⟩) (fz ⟨ts⟩) n i ++ [fz ⟨Z.map tV⟩, .int .i64 (Z.length : Int), .int .i64 0]) (hH rise fall) K := ⟨_, in_loop vs ps ts rise fall n i hZ hl K hK Z.length 0 (by omega)⟩

/-- The turns as they are. -/
def tsL (vs : List Value) (rise fall : Int) (L : List T3) : List T3 := turnsL rise fall (idxV vs) (List.replicate vs.length HealthLaw.d0) L
theorem isE_ne {L : List T3} (h : L ≠ []) : isE (L.map tV) = false := by
  cases q : isE (L.map tV) with
  | false => rfl
  | true => exact absurd (List.map_eq_nil_iff.1 (isE_iff.1 q)) h
theorem fl_eq (key : ByteArray) (L : List T3) : LW0.fl key (L.map tV).length ((L.map tV).flatMap fun x => x.cells.toList) = (L.filter (keep key)).map tV := by
  show ((rdL (L.map tV).length ((L.map tV).flatMap fun x => x.cells.toList)).filter (keep key)).map tV = _
  rw [flatC, List.length_map, rdL_flat]
theorem tr_eq (vs : List Value) (rise fall : Int) {M : List T3} (h : ckV vs (M.map tV) = 0) : LW0.tr vs rise fall (M.map tV) = (tsL vs rise fall M).map tV := by
  show trV vs rise fall (M.map tV) = _
  rw [trV, if_pos h]
  unfold trL tsL
  rw [unT_map]
theorem cl_ok {L : List T3} (h : L.length ≤ 1000) : ((L.map tV).length.beq (L.map tV).length && okC (L.map tV).length ((L.map tV).flatMap fun x => x.cells.toList) && (L.map tV).length.ble 1000 && true && true) = true := by
  rw [flatC, List.length_map, Nat.beq_refl, okC_iff.2 ⟨L, rfl, rfl⟩, Nat.ble_eq_true_of_le h]; rfl
theorem keep_idx : ∀ ks ∈ keyI, ∀ a ∈ keysP, plF ks a = true → ∀ b ∈ ks, ((a.toList == b.toList) = true → plI ks a = plI ks b) ∧ ((a.toList == b.toList) = false → plI ks a ≠ plI ks b) := by decide +kernel
theorem keyI_f : ∀ ks ∈ keyI, ∀ b ∈ ks, plF ks b = true := by decide +kernel
theorem one_law {vs : List Value} (hv : okI vs = true) {L : List T3} (hL : Tok L) (hc : chkOk (fun k => plF (vs.map keyV) k) none L) (rise fall : Int) {key : ByteArray} (hk : key ∈ vs.map keyV) :
    tsL vs rise fall (L.filter (keep key)) = (tsL vs rise fall L).filter (keep key) ∧ alt false (tsL vs rise fall (L.filter (keep key))) := by
  have hks := okI_keys hv
  have hin := keyI_in _ hks key hk
  obtain ⟨e1, e2⟩ := idx_lt hv hin (keyI_f _ hks key hk)
  have hidx : ∀ t ∈ L, ((t.2.1.toList == key.toList) = true → idxV vs t.2.1 = idxV vs key) ∧ ((t.2.1.toList == key.toList) = false → idxV vs t.2.1 ≠ idxV vs key) := by
    intro t ht
    have hf : plF (vs.map keyV) t.2.1 = true := (ok_known hc t ht).1
    obtain ⟨f1, _⟩ := idx_lt hv (hL.1 t ht) hf
    obtain ⟨g1, g2⟩ := keep_idx _ hks _ (inPK_mem (hL.1 t ht)) hf key hk
    refine ⟨fun q => ?_, fun q => ?_⟩
    · have := g1 q; omega
    · have := g2 q; omega
  have hlen : idxV vs key < (List.replicate vs.length HealthLaw.d0).length := by rw [List.length_replicate]; exact e2
  refine ⟨?_, ?_⟩
  · exact (by_itself (q := fun k => k.toList == key.toList) L _ _ hidx rfl hlen hlen).symm
  · have := alt_turns (rise := rise) (fall := fall) (idx := idxV vs) (L.filter (keep key)) (List.replicate vs.length HealthLaw.d0) (i := idxV vs key) (fun t ht => by
      obtain ⟨q1, q2⟩ := List.mem_filter.1 ht
      exact (hidx t q1).1 q2) hlen
    have hd : (List.replicate vs.length HealthLaw.d0).getD (idxV vs key) HealthLaw.d0 = HealthLaw.d0 := by simp [List.getD, e2]
    rw [hd] at this
    exact this
theorem outN {I : List (ByteArray × Int)} {vs : List Value} (hI : vs = I.map instV) (hv : okI vs = true) {L : List T3} (hL : Tok L) (hc : chkOk (fun k => plF (vs.map keyV) k) none L) {rise fall : Int} (b1 : 1 ≤ rise) (b2 : rise ≤ 3) (b3 : 1 ≤ fall) (b4 : fall ≤ 3) (hp : L = [])
    (K : AExit → List Value → AH → Prop) (hK : K (.exit 0) [anyV] h0) : ∀ r i, i + r = I.length → iterE 0 Tryz.prog 98 [4, 5, 6, 7, 53, 54, 55] [] [2] [] (oneLoop (codeOf Tryz.f3) 10) (r + 1) (outV vs nilV nilV (I.length : Int) (i : Int)) (hH rise fall) K := by
  have hlen := okI_len hv
  have hIl : vs.length = I.length := by rw [hI, List.length_map]
  intro r
  induction r with
  | zero =>
    intro i h1
    exact ⟨SLo LW0, [], Lin (fun _ _ => False) vs nilV nilV rise fall (I.length : Int) (i : Int), 3000, SLo_ok, Lin_ok fun vals h K q => q.1.elim, (loN LW0 vs [] [] rise fall _ _ _ _ K).mpr (pick_f (by simp; omega) hK)⟩
  | succ r ih =>
    intro i h1
    have hi : i < I.length := by omega
    have hget : (Array.mk vs).toList.getD (i : Int).toNat undef = instV I[i] := by
      show vs.getD i undef = _
      rw [hI]
      simp [List.getD, hi]
    have hel : elI vs (i : Int) = I[i] := by unfold elI; rw [hget]; rfl
    generalize hy : I[i] = y at hget hel
    have hyI : y ∈ I := hy ▸ List.getElem_mem hi
    have hky : y.1 ∈ vs.map keyV := by rw [hI, keyV_map]; exact List.mem_map.2 ⟨y, hyI, rfl⟩
    have hsz : (Array.mk vs).size = I.length := hIl
    refine ⟨SLo LW0, [], Lin (fun vals h => vals = outV vs nilV nilV (I.length : Int) (i : Int) ++ [nilV, .int .i64 0, .int .i64 0] ∧ h = hH rise fall) vs nilV nilV rise fall (I.length : Int) (i : Int), 3000, SLo_ok, Lin_ok ?_, (loN LW0 vs [] [] rise fall _ _ _ _ K).mpr (pick_t (decide_eq_true (by omega)) (need_mk (by rw [hsz]; simp; omega) ?_))⟩
    · rintro vals h K ⟨⟨rfl, rfl⟩, hK⟩
      exact inN_ok _ [] [] rise fall _ _ K hK
    rw [hel]
    refine ⟨hget, ?_⟩
    have hTn : okT [] = true := okT_iff.2 ⟨[], ⟨(fun t ht => by cases ht), Nat.zero_le _⟩, rfl⟩
    have hck : LW0.ck vs [] = 0 := rfl
    have htr : LW0.tr vs rise fall [] = [] := by
      show trV vs rise fall [] = []
      rw [trV, if_pos (show ckV vs [] = 0 from rfl)]
      rfl
    refine need_mk (by rw [hv, hTn]; simp; omega) (pick_f (by rw [hck]; rfl) (need_mk (by rw [htr, hTn, sameL_iff.2 rfl]; rfl) ⟨⟨rfl, rfl⟩, ?_⟩))
    rw [wrap1 (by omega)]
    exact ih (i + 1) (by omega)
theorem outM {I : List (ByteArray × Int)} {vs : List Value} (hI : vs = I.map instV) (hv : okI vs = true) {L : List T3} (hL : Tok L) (hc : chkOk (fun k => plF (vs.map keyV) k) none L) {rise fall : Int} (b1 : 1 ≤ rise) (b2 : rise ≤ 3) (b3 : 1 ≤ fall) (b4 : fall ≤ 3) (hp : L ≠ []) (ha : tsL vs rise fall L = [])
    (K : AExit → List Value → AH → Prop) (hK : K (.exit 0) [anyV] h0) : ∀ r i, i + r = I.length → iterE 0 Tryz.prog 98 [4, 5, 6, 7, 53, 54, 55] [] [2] [] (oneLoop (codeOf Tryz.f3) 10) (r + 1) (outV vs (fz ⟨L.map tV⟩) nilV (I.length : Int) (i : Int)) (hH rise fall) K := by
  have hlen := okI_len hv
  have hIl : vs.length = I.length := by rw [hI, List.length_map]
  intro r
  induction r with
  | zero =>
    intro i h1
    exact ⟨SLo LW0, [], Lin (fun _ _ => False) vs (fz ⟨L.map tV⟩) nilV rise fall (I.length : Int) (i : Int), 3000, SLo_ok, Lin_ok fun vals h K q => q.1.elim, (loM LW0 vs (L.map tV) [] rise fall _ _ _ _ K).mpr (pick_f (by simp; omega) hK)⟩
  | succ r ih =>
    intro i h1
    have hi : i < I.length := by omega
    have hget : (Array.mk vs).toList.getD (i : Int).toNat undef = instV I[i] := by
      show vs.getD i undef = _
      rw [hI]
      simp [List.getD, hi]
    have hel : elI vs (i : Int) = I[i] := by unfold elI; rw [hget]; rfl
    generalize hy : I[i] = y at hget hel
    have hyI : y ∈ I := hy ▸ List.getElem_mem hi
    have hky : y.1 ∈ vs.map keyV := by rw [hI, keyV_map]; exact List.mem_map.2 ⟨y, hyI, rfl⟩
    have hsz : (Array.mk vs).size = I.length := hIl
    refine ⟨SLo LW0, [], Lin (fun vals h => vals = outV vs (fz ⟨L.map tV⟩) nilV (I.length : Int) (i : Int) ++ [nilV, .int .i64 0, .int .i64 0] ∧ h = hH rise fall) vs (fz ⟨L.map tV⟩) nilV rise fall (I.length : Int) (i : Int), 3000, SLo_ok, Lin_ok ?_, (loM LW0 vs (L.map tV) [] rise fall _ _ _ _ K).mpr (pick_t (decide_eq_true (by omega)) (need_mk (by rw [hsz]; simp; omega) ?_))⟩
    · rintro vals h K ⟨⟨rfl, rfl⟩, hK⟩
      exact inM_ok _ _ [] rise fall _ _ K hK
    rw [hel]
    refine ⟨hget, ?_⟩
    have hTp : okT (L.map tV) = true := okT_iff.2 ⟨L, hL, rfl⟩
    have hEp : isE (L.map tV) = false := isE_ne hp
    have hfl : LW0.fl y.1 (L.map tV).length ((L.map tV).flatMap fun x => x.cells.toList) = (L.filter (keep y.1)).map tV := fl_eq y.1 L
    have hTm : Tok (L.filter (keep y.1)) := ⟨fun t ht => hL.1 t (List.mem_filter.1 ht).1, Nat.le_trans (List.length_filter_le _ _) hL.2⟩
    have hcm : ckV vs ((L.filter (keep y.1)).map tV) = 0 := by unfold ckV; rw [unT_map]; exact ok_chk (ok_filter _ hc)
    have htr : LW0.tr vs rise fall ((L.filter (keep y.1)).map tV) = (tsL vs rise fall (L.filter (keep y.1))).map tV := tr_eq vs rise fall hcm
    have hTt : ∀ M : List T3, Tok M → okT ((tsL vs rise fall M).map tV) = true := fun M hM => okT_iff.2 ⟨_, ⟨turns_inst (R := fun k => inPK k = true) M _ hM.1, Nat.le_trans (turns_len M _) hM.2⟩, rfl⟩
    obtain ⟨hone, halt⟩ := one_law hv hL hc rise fall hky
    have hok : (okI vs && okT ((L.filter (keep y.1)).map tV) && decide (1 ≤ rise) && decide (rise ≤ 3) && decide (1 ≤ fall) && decide (fall ≤ 3)) = true := by
      rw [hv, okT_iff.2 ⟨_, hTm, rfl⟩]; simp; omega
    have hcl : ((L.map tV).length.beq (L.map tV).length && okC (L.map tV).length ((L.map tV).flatMap fun x => x.cells.toList) && (L.map tV).length.ble 1000 && true && true) = true := cl_ok (by have := hL.2; omega)
    rw [hfl]
    rw [ha] at hone
    refine need_mk (by rw [hTp, hEp]; rfl) (need_mk hcl (need_mk hok (pick_f (by show (ckV _ _ != 0) = false; rw [hcm]; rfl) (need_mk ?_ ⟨⟨rfl, rfl⟩, ?_⟩))))
    · rw [htr, hTt _ hTm, hone, sameL_iff.2 (show List.map tV (List.filter (keep y.1) []) = [] from rfl)]; rfl
    rw [wrap1 (by omega)]
    exact ih (i + 1) (by omega)
theorem outS {I : List (ByteArray × Int)} {vs : List Value} (hI : vs = I.map instV) (hv : okI vs = true) {L : List T3} (hL : Tok L) (hc : chkOk (fun k => plF (vs.map keyV) k) none L) {rise fall : Int} (b1 : 1 ≤ rise) (b2 : rise ≤ 3) (b3 : 1 ≤ fall) (b4 : fall ≤ 3) (hp : L ≠ []) (ha : tsL vs rise fall L ≠ [])
    (K : AExit → List Value → AH → Prop) (hK : K (.exit 0) [anyV] h0) : ∀ r i, i + r = I.length → iterE 0 Tryz.prog 98 [4, 5, 6, 7, 53, 54, 55] [] [2] [] (oneLoop (codeOf Tryz.f3) 10) (r + 1) (outV vs (fz ⟨L.map tV⟩) (fz ⟨(tsL vs rise fall L).map tV⟩) (I.length : Int) (i : Int)) (hH rise fall) K := by
  have hlen := okI_len hv
  have hIl : vs.length = I.length := by rw [hI, List.length_map]
  intro r
  induction r with
  | zero =>
    intro i h1
    exact ⟨SLo LW0, [], Lin (fun _ _ => False) vs (fz ⟨L.map tV⟩) (fz ⟨(tsL vs rise fall L).map tV⟩) rise fall (I.length : Int) (i : Int), 3000, SLo_ok, Lin_ok fun vals h K q => q.1.elim, (loS LW0 vs (L.map tV) ((tsL vs rise fall L).map tV) rise fall _ _ _ _ K).mpr (pick_f (by simp; omega) hK)⟩
  | succ r ih =>
    intro i h1
    have hi : i < I.length := by omega
    have hget : (Array.mk vs).toList.getD (i : Int).toNat undef = instV I[i] := by
      show vs.getD i undef = _
      rw [hI]
      simp [List.getD, hi]
    have hel : elI vs (i : Int) = I[i] := by unfold elI; rw [hget]; rfl
    generalize hy : I[i] = y at hget hel
    have hyI : y ∈ I := hy ▸ List.getElem_mem hi
    have hky : y.1 ∈ vs.map keyV := by rw [hI, keyV_map]; exact List.mem_map.2 ⟨y, hyI, rfl⟩
    have hsz : (Array.mk vs).size = I.length := hIl
    refine ⟨SLo LW0, [], Lin (fun vals h => ∃ Z, alt false Z ∧ Z.length ≤ 16 ∧ vals = outV vs (fz ⟨L.map tV⟩) (fz ⟨(tsL vs rise fall L).map tV⟩) (I.length : Int) (i : Int) ++ [fz ⟨Z.map tV⟩, .int .i64 (Z.length : Int), .int .i64 0] ∧ h = hH rise fall) vs (fz ⟨L.map tV⟩) (fz ⟨(tsL vs rise fall L).map tV⟩) rise fall (I.length : Int) (i : Int), 3000, SLo_ok, Lin_ok ?_, (loS LW0 vs (L.map tV) ((tsL vs rise fall L).map tV) rise fall _ _ _ _ K).mpr (pick_t (decide_eq_true (by omega)) (need_mk (by rw [hsz]; simp; omega) ?_))⟩
    · rintro vals h K ⟨⟨Z, z1, z2, rfl, rfl⟩, hK⟩
      exact inS_ok _ _ _ rise fall _ _ z1 z2 K hK
    rw [hel]
    refine ⟨hget, ?_⟩
    have hTp : okT (L.map tV) = true := okT_iff.2 ⟨L, hL, rfl⟩
    have hEp : isE (L.map tV) = false := isE_ne hp
    have hfl : LW0.fl y.1 (L.map tV).length ((L.map tV).flatMap fun x => x.cells.toList) = (L.filter (keep y.1)).map tV := fl_eq y.1 L
    have hTm : Tok (L.filter (keep y.1)) := ⟨fun t ht => hL.1 t (List.mem_filter.1 ht).1, Nat.le_trans (List.length_filter_le _ _) hL.2⟩
    have hcm : ckV vs ((L.filter (keep y.1)).map tV) = 0 := by unfold ckV; rw [unT_map]; exact ok_chk (ok_filter _ hc)
    have htr : LW0.tr vs rise fall ((L.filter (keep y.1)).map tV) = (tsL vs rise fall (L.filter (keep y.1))).map tV := tr_eq vs rise fall hcm
    have hTt : ∀ M : List T3, Tok M → okT ((tsL vs rise fall M).map tV) = true := fun M hM => okT_iff.2 ⟨_, ⟨turns_inst (R := fun k => inPK k = true) M _ hM.1, Nat.le_trans (turns_len M _) hM.2⟩, rfl⟩
    obtain ⟨hone, halt⟩ := one_law hv hL hc rise fall hky
    have hok : (okI vs && okT ((L.filter (keep y.1)).map tV) && decide (1 ≤ rise) && decide (rise ≤ 3) && decide (1 ≤ fall) && decide (fall ≤ 3)) = true := by
      rw [hv, okT_iff.2 ⟨_, hTm, rfl⟩]; simp; omega
    have hcl : ((L.map tV).length.beq (L.map tV).length && okC (L.map tV).length ((L.map tV).flatMap fun x => x.cells.toList) && (L.map tV).length.ble 1000 && true && true) = true := cl_ok (by have := hL.2; omega)
    rw [hfl]
    have hfa : LW0.fl y.1 ((tsL vs rise fall L).map tV).length (((tsL vs rise fall L).map tV).flatMap fun x => x.cells.toList) = ((tsL vs rise fall L).filter (keep y.1)).map tV := fl_eq y.1 _
    rw [hfa, ← hone]
    have hla := Nat.le_trans (turns_len (rise := rise) (fall := fall) (idx := idxV vs) L (List.replicate vs.length HealthLaw.d0)) hL.2
    have hca := cl_ok (L := tsL vs rise fall L) (by show (turnsL _ _ _ _ _).length ≤ 1000; omega)
    refine need_mk (by rw [hTp, hEp]; rfl) (need_mk hcl (need_mk hok (need_mk (by rw [hTt L hL, isE_ne ha]; rfl) (need_mk hca (pick_f (by show (ckV _ _ != 0) = false; rw [hcm]; rfl) (need_mk ?_ ⟨⟨_, halt, Nat.le_trans (turns_len _ _) hTm.2, ?_, rfl⟩, ?_⟩))))))
    · rw [htr, hTt _ hTm, sameL_iff.2 rfl]; rfl
    · rw [size_map]
    rw [wrap1 (by omega)]
    exact ih (i + 1) (by omega)
end Go.Proofs.YtbeodpcdjlphkaaGreatDoor
