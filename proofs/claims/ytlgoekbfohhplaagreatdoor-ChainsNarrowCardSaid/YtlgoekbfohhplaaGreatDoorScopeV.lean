/-
  The specifications of ScopeU with their functions as unknowns; plain laws about claims.
-/
import Derived.Test.YtlgoekbfohhplaaGreatDoorScopeU
namespace Go.Proofs.YtlgoekbfohhplaaGreatDoor
open Go.Ev Go.RowKit ScopeLaw

theorem any_C (hs : List Value) (s : ByteArray) : anyV1 (gB s) hs = anyC covB (hs.map unS) s.data.toList := by
  unfold anyV1 anyC
  rw [List.any_map]
  rfl
theorem all_C (hs vs : List Value) : allV hs vs = allC covB (hs.map unS) (vs.map unS) := by
  unfold allV allC
  rw [List.all_map]
  congr 1
  funext v
  exact any_C hs (toStr v)
theorem allC_iff {a b : List (List UInt8)} : allC covB a b = true ↔ ∀ x ∈ b, ∃ h ∈ a, covB h x = true := by
  unfold allC
  rw [List.all_eq_true]
  exact ⟨fun h x hx => anyC_iff.1 (h x hx), fun h x hx => anyC_iff.2 (h x hx)⟩
theorem allV_refl {l : List Value} (h : tenR l = true) : allV l l = true := by
  rw [all_C, allC_iff]
  intro x hx
  exact ⟨x, hx, cov_ten.refl x ((tenR_ok h).2.1 x hx)⟩
theorem allV_trans {a b c : List Value} (ha : tenR a = true) (hb : tenR b = true) (hc : tenR c = true) (h1 : allV a b = true) (h2 : allV b c = true) : allV a c = true := by
  rw [all_C, allC_iff] at h1 h2 ⊢
  intro x hx
  obtain ⟨y, hy, hyx⟩ := h2 x hx
  obtain ⟨z, hz, hzy⟩ := h1 y hy
  exact ⟨z, hz, cov_ten.trans z ((tenR_ok ha).2.1 z hz) y ((tenR_ok hb).2.1 y hy) x ((tenR_ok hc).2.1 x hx) hzy hyx⟩
theorem allV_least {a vs : List Value} (h : allV a vs = true) : allV a (leastV vs) = true := by
  rw [all_C, allC_iff] at h ⊢
  intro x hx
  unfold leastV at hx
  rw [un_map] at hx
  exact h x ((rising_mem _ x).1 (mem_least.1 hx).1)
/-- Claims. -/
structure Cl where
  id : ByteArray
  sub : ByteArray
  iss : ByteArray
  par : ByteArray
  aud : Value
  sc : Value
  fr : Int
  to : Int
def Cl.cells (c : Cl) : List Value := [.string c.id, .string c.sub, .string c.iss, .string c.par, c.aud, c.sc, .int .i64 c.fr, .int .i64 c.to]
/-- Claims that are right by themselves. -/
structure Cl.Ok (c : Cl) : Prop where
  id : inKey c.id = true
  sub : inKey c.sub = true
  iss : inKey c.iss = true
  par : okPar c.par = true
  aud : okAud c.aud = true
  sc : okSc c.sc = true
  time : ccE c.fr c.to = 0
  fr : 0 ≤ c.fr
  lt : c.fr < c.to
  to : c.to ≤ 1000
/-- Claims that were made out of others. -/
structure Cl.Next (p c : Cl) : Prop where
  par : c.par = p.id
  iss : c.iss = p.iss
  aud : c.aud = p.aud
  sc : allV (unF p.sc) (unF c.sc) = true
  fr : p.fr ≤ c.fr
  to : c.to ≤ p.to
theorem Cl.Ok.ten {c : Cl} (h : c.Ok) : tenR (unF c.sc) = true := (okW_nrm (okSc_W h.sc)).2
theorem Cl.Ok.w {c : Cl} (h : c.Ok) : okW c.sc = true := okSc_W h.sc

/-- The functions that the specifications name. -/
structure Fns where
  rs : Array Value → Int → Value
  le : Value → Value
  au : Array Value → Value
  okA : Value → Bool
  okS : Value → Bool
  okC : Value → Bool
  okW : Value → Bool
  al : Value → Value → Bool
  eq : Value → Value → Bool
  dE : ByteArray → ByteArray → Value → Value → Int → Int → Int → Int → Int
  cc : Int → Int → Int
  key : ByteArray → Bool
  par : ByteArray → Bool
  sel : Bool → Value → Value
  st : Array Value → Nat → ByteArray
  fr : Array Value → Int
  to : Array Value → Int
def stN (xs : Array Value) : Nat → ByteArray
  | 0 => ⟨#[]⟩
  | _ => ⟨#[]⟩
noncomputable def spRCf (F : Fns) (f : FuncId) (args : Array Value) (h : AH) : Option (Bool × Value × AH) :=
  cond (Nat.beq f 12) (match args with
    | ⟨[.pointer (some ⟨b, 0, none⟩)]⟩ => match h.get b with
      | some (.cells ⟨[.func (.yield 0) xs ⟨[]⟩, .int .i64 at_]⟩ t (0, 0)) =>
        some (Nat.beq t 25 && decide (at_ = 0) && allInts xs, .agg ⟨[.string (F.st xs 0), .string (F.st xs 1), .string (F.st xs 2), .string (F.st xs 3), F.au xs, F.le (F.rs xs 5), .int .i64 (F.fr xs), .int .i64 (F.to xs)]⟩, h.set b (.cells ⟨[fz xs, .int .i64 (scE xs 5 + 1 + 1)]⟩ 25 (0, 0)))
      | _ => none
    | _ => none) none
noncomputable def spRWf (F : Fns) (f : FuncId) (args : Array Value) (h : AH) : Option (Bool × Value × AH) :=
  cond (Nat.beq f 5) (match args with
    | ⟨[.pointer (some ⟨b, 0, none⟩)]⟩ => match h.get b with
      | some (.cells ⟨[.func (.yield 0) xs ⟨[]⟩, .int .i64 at_]⟩ t (0, 0)) =>
        some (Nat.beq t 25 && decide (0 ≤ at_) && decide (at_ ≤ 100000) && allInts xs, F.rs xs at_, h.set b (.cells ⟨[fz xs, .int .i64 (scE xs at_)]⟩ 25 (0, 0)))
      | _ => none
    | _ => none) none
def spDlf (F : Fns) (f : FuncId) (args : Array Value) (h : AH) : Option (Bool × Value × AH) :=
  cond (Nat.beq f 13) (match args with
    | ⟨[.agg ⟨[.string id0, .string sub0, .string iss0, .string par0, aud, psc, .int .i64 fr, .int .i64 to]⟩, .string id, .string sub, scs, .agg ⟨[.int .i64 wf, .int .i64 wt]⟩]⟩ =>
      some (F.key id0 && F.key sub0 && F.key iss0 && F.par par0 && F.okA aud && F.okC psc && F.key id && F.key sub && F.okS scs,
        .tuple ⟨[.agg ⟨[.string (cond (F.dE id0 id psc scs fr to wf wt == 0) id ⟨#[]⟩), .string (cond (F.dE id0 id psc scs fr to wf wt == 0) sub ⟨#[]⟩), .string (cond (F.dE id0 id psc scs fr to wf wt == 0) iss0 ⟨#[]⟩), .string (cond (F.dE id0 id psc scs fr to wf wt == 0) id0 ⟨#[]⟩),
          F.sel (F.dE id0 id psc scs fr to wf wt == 0) aud, F.sel (F.dE id0 id psc scs fr to wf wt == 0) (F.le scs), .int .i64 (cond (F.dE id0 id psc scs fr to wf wt == 0) wf 0), .int .i64 (cond (F.dE id0 id psc scs fr to wf wt == 0) wt 0)]⟩, .int .i64 (F.dE id0 id psc scs fr to wf wt)]⟩, h)
    | _ => none) none
def spCof (F : Fns) (f : FuncId) (args : Array Value) (h : AH) : Option (Bool × Value × AH) :=
  cond (Nat.beq f 9) (match args with
    | ⟨[a, b]⟩ => some (F.okW a && F.okW b, .tuple ⟨[.bool (F.al a b), .int .i64 0]⟩, h)
    | _ => none) none
def spCaf (F : Fns) (f : FuncId) (args : Array Value) (h : AH) : Option (Bool × Value × AH) :=
  cond (Nat.beq f 21) (match args with
    | ⟨[a, b]⟩ => some (F.okW a && F.okW b, .bool (F.al a b), h)
    | _ => none) none
def spEqf (F : Fns) (f : FuncId) (args : Array Value) (h : AH) : Option (Bool × Value × AH) :=
  cond (Nat.beq f 66) (match args with
    | ⟨[a, b]⟩ => some (F.okA a && F.okA b, .bool (F.eq a b), h)
    | _ => none) none
def spCCf (F : Fns) (f : FuncId) (args : Array Value) (h : AH) : Option (Bool × Value × AH) :=
  cond (Nat.beq f 29) (match args with
    | ⟨[.agg ⟨[.string id, .string sub, .string iss, .string par, aud, sc, .int .i64 fr, .int .i64 to]⟩]⟩ => some (F.key id && F.key sub && F.key iss && F.par par && F.okA aud && F.okC sc, .int .i64 (F.cc fr to), h)
    | _ => none) none
noncomputable def SLf (F : Fns) : SC := ⟨idn, spOr spReady (spOr (spRCf F) (spOr (spRWf F) (spOr (spNext []) (spOr (spDlf F) (spOr (spCof F) (spOr (spCCf F) (spOr (spCaf F) (spEqf F)))))))), true, true⟩
noncomputable def F0 : Fns where
  rs := rsW
  le := leV
  au := fun xs => wAud (nextR xs 4 5)
  okA := okAud
  okS := okScs
  okC := okSc
  okW := okW
  al := fun a b => allV (unF a) (unF b)
  eq := fun a b => eqS (unF a) (unF b)
  dE := dE
  cc := ccE
  key := inKey
  par := okPar
  sel := fun b v => cond b v (.slice none 0 0)
  st := fun xs n => match n with | 0 => rcId xs | 1 => rcSub xs | 2 => rcIss xs | _ => rcPar xs
  fr := rcFr
  to := rcTo
theorem F0_rc : spRCf F0 = spRC := rfl
theorem F0_rw : spRWf F0 = spRW := rfl
theorem F0_dl : spDlf F0 = spDl := rfl
theorem F0_co : spCof F0 = spCoW := rfl
theorem F0_ca : spCaf F0 = spCaW := rfl
theorem F0_eq : spEqf F0 = spEqW := rfl
theorem F0_cc : spCCf F0 = spCC := rfl
theorem SLf_ok : (SLf F0).cfg.OK Tryz.prog := by
  have := (spReady_ok.or (spRC_ok.or (spRW_ok.or ((spNext_ok []).or (spDl_ok.or (spCoW_ok.or (spCC_ok.or (spCaW_ok.or spEqW_ok)))))))).cfg (e := true) (g := true)
  exact this
end Go.Proofs.YtlgoekbfohhplaaGreatDoor
