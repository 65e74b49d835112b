/-
  Catalogs: the function 'Cheapest' as a specification.
-/
import Derived.Test.YtfepnpffbhjakaaGreatDoorPgE
namespace Go.Proofs.YtfepnpffbhjakaaGreatDoor
open Go.Ev Go.RowKit PriceLaw

noncomputable def SH1 : SC := ⟨idn, spPr, true, true⟩
noncomputable def SH2 : SC := ⟨idn, spOr spCc spPa, false, true⟩
def hC (P : Value) (vs : List Value) : AH := ⟨1, 1, [(0, .cells ⟨[P, fz ⟨vs⟩]⟩ 29 (0, 0))]⟩
theorem SH1_ok : SH1.cfg.OK Tryz.prog := spPr_ok.cfg
theorem SH2_ok : SH2.cfg.OK Tryz.prog := (spCc_ok.or spPa_ok).cfg
theorem chr (P : Value) (vs : List Value) (calls n i least : Int) (best : ByteArray) (B : List Value → AH → Prop) (Q : AExit → List Value → AH → Prop) : (once 0 Tryz.prog SH1 [] noHooks 400 75 [1, 2, 3, 12, 13, 33, 34, 35] [0] [12, 13] [] (oneLoop (codeOf Tryz.f6) 11) [.string ⟨#[115, 104, 111, 112]⟩, .int .i64 calls, .pointer (some ⟨0, 0, none⟩), .string best, .int .i64 least, fz ⟨vs⟩, .int .i64 n, .int .i64 i] (hC P vs) B Q) = bif decide (i < n) then bif decide (0 ≤ i) && decide (i < ((Array.mk vs).size : Int)) && true then (Array.mk vs).toList.getD i.toNat (Value.tuple { toList := [] }) = Value.agg { toList := [Value.string (toStr (((Array.mk vs).toList.getD i.toNat undef).cells.toList.getD 0 (Value.tuple { toList := [] }))), Value.string (toStr (((Array.mk vs).toList.getD i.toNat undef).cells.toList.getD 1 (Value.tuple { toList := [] }))), Value.int IntKind.i64 (toInt (((Array.mk vs).toList.getD i.toNat undef).cells.toList.getD 2 (Value.tuple { toList := [] }))), Value.int IntKind.i64 (toInt (((Array.mk vs).toList.getD i.toNat undef).cells.toList.getD 3 (Value.tuple { toList := [] }))), Value.func (Fn.yield 0) (toArr (((Array.mk vs).toList.getD i.toNat undef).cells.toList.getD 4 undef)) { toList := [] }, Value.int IntKind.i64 (toInt (((Array.mk vs).toList.getD i.toNat undef).cells.toList.getD 5 (Value.tuple { toList := [] }))), Value.int IntKind.i64 (toInt (((Array.mk vs).toList.getD i.toNat undef).cells.toList.getD 6 (Value.tuple { toList := [] }))), Value.bool (Ev.toBool (((Array.mk vs).toList.getD i.toNat undef).cells.toList.getD 7 undef))] } ∧ bif !(toStr (((Array.mk vs).toList.getD i.toNat undef).cells.toList.getD 1 (Value.tuple { toList := [] }))).toList == (ByteArray.mk #[115, 104, 111, 112]).toList then NoNames (Obj.cells { toList := [P, Value.func (Fn.yield 0) { toList := vs } { toList := [] }] } 29 (0, 0)) ∧ B [Value.string { data := #[115, 104, 111, 112] }, Value.int IntKind.i64 calls, Value.pointer (some { block := 0, off := 0 }), Value.string best, Value.int IntKind.i64 least, Value.func (Fn.yield 0) { toList := vs } { toList := [] }, Value.int IntKind.i64 n, Value.int IntKind.i64 (IntKind.i64.wrap (i + 1))] { next := 1, low := 1, blocks := [(0, Obj.cells { toList := [P, Value.func (Fn.yield 0) { toList := vs } { toList := [] }] } 29 (0, 0))] } else bif decide (toInt (((Array.mk vs).toList.getD i.toNat undef).cells.toList.getD 5 (Value.tuple { toList := [] })) ≥ 0) then bif decide (toInt (((Array.mk vs).toList.getD i.toNat undef).cells.toList.getD 5 (Value.tuple { toList := [] })) < calls) then NoNames (Obj.cells { toList := [P, Value.func (Fn.yield 0) { toList := vs } { toList := [] }] } 29 (0, 0)) ∧ B [Value.string { data := #[115, 104, 111, 112] }, Value.int IntKind.i64 calls, Value.pointer (some { block := 0, off := 0 }), Value.string best, Value.int IntKind.i64 least, Value.func (Fn.yield 0) { toList := vs } { toList := [] }, Value.int IntKind.i64 n, Value.int IntKind.i64 (IntKind.i64.wrap (i + 1))] { next := 1, low := 1, blocks := [(0, Obj.cells { toList := [P, Value.func (Fn.yield 0) { toList := vs } { toList := [] }] } 29 (0, 0))] } else bif okTl (toArr (((Array.mk vs).toList.getD i.toNat undef).cells.toList.getD (0 + 1 + 1 + 1 + 1) undef)).toList && decide (0 ≤ toInt (((Array.mk vs).toList.getD i.toNat undef).cells.toList.getD 3 (Value.tuple { toList := [] }))) && decide (toInt (((Array.mk vs).toList.getD i.toNat undef).cells.toList.getD 3 (Value.tuple { toList := [] })) ≤ 1000) && decide (0 ≤ calls) && decide (calls ≤ 1000) then bif best.toList == (ByteArray.mk #[]).toList then NoNames (Obj.cells { toList := [P, Value.func (Fn.yield 0) { toList := vs } { toList := [] }] } 29 (0, 0)) ∧ B [Value.string { data := #[115, 104, 111, 112] }, Value.int IntKind.i64 calls, Value.pointer (some { block := 0, off := 0 }), Value.string (toStr (((Array.mk vs).toList.getD i.toNat undef).cells.toList.getD 0 (Value.tuple { toList := [] }))), Value.int IntKind.i64 (IntKind.i64.wrap (toInt (((Array.mk vs).toList.getD i.toNat undef).cells.toList.getD 2 (Value.tuple { toList := [] })) + prV (toArr (((Array.mk vs).toList.getD i.toNat undef).cells.toList.getD (0 + 1 + 1 + 1 + 1) undef)).toList (toInt (((Array.mk vs).toList.getD i.toNat undef).cells.toList.getD 3 (Value.tuple { toList := [] }))) calls)), Value.func (Fn.yield 0) { toList := vs } { toList := [] }, Value.int IntKind.i64 n, Value.int IntKind.i64 (IntKind.i64.wrap (i + 1))] { next := 1, low := 1, blocks := [(0, Obj.cells { toList := [P, Value.func (Fn.yield 0) { toList := vs } { toList := [] }] } 29 (0, 0))] } else bif decide (IntKind.i64.wrap (toInt (((Array.mk vs).toList.getD i.toNat undef).cells.toList.getD 2 (Value.tuple { toList := [] })) + prV (toArr (((Array.mk vs).toList.getD i.toNat undef).cells.toList.getD (0 + 1 + 1 + 1 + 1) undef)).toList (toInt (((Array.mk vs).toList.getD i.toNat undef).cells.toList.getD 3 (Value.tuple { toList := [] }))) calls) < least) then NoNames (Obj.cells { toList := [P, Value.func (Fn.yield 0) { toList := vs } { toList := [] }] } 29 (0, 0)) ∧ B [Value.string { data := #[115, 104, 111, 112] }, Value.int IntKind.i64 calls, Value.pointer (some { block := 0, off := 0 }), Value.string (toStr (((Array.mk vs).toList.getD i.toNat undef).cells.toList.getD 0 (Value.tuple { toList := [] }))), Value.int IntKind.i64 (IntKind.i64.wrap (toInt (((Array.mk vs).toList.getD i.toNat undef).cells.toList.getD 2 (Value.tuple { toList := [] })) + prV (toArr (((Array.mk vs).toList.getD i.toNat undef).cells.toList.getD (0 + 1 + 1 + 1 + 1) undef)).toList (toInt (((Array.mk vs).toList.getD i.toNat undef).cells.toList.getD 3 (Value.tuple { toList := [] }))) calls)), Value.func (Fn.yield 0) { toList := vs } { toList := [] }, Value.int IntKind.i64 n, Value.int IntKind.i64 (IntKind.i64.wrap (i + 1))] { next := 1, low := 1, blocks := [(0, Obj.cells { toList := [P, Value.func (Fn.yield 0) { toList := vs } { toList := [] }] } 29 (0, 0))] } else NoNames (Obj.cells { toList := [P, Value.func (Fn.yield 0) { toList := vs } { toList := [] }] } 29 (0, 0)) ∧ B [Value.string { data := #[115, 104, 111, 112] }, Value.int IntKind.i64 calls, Value.pointer (some { block := 0, off := 0 }), Value.string best, Value.int IntKind.i64 least, Value.func (Fn.yield 0) { toList := vs } { toList := [] }, Value.int IntKind.i64 n, Value.int IntKind.i64 (IntKind.i64.wrap (i + 1))] { next := 1, low := 1, blocks := [(0, Obj.cells { toList := [P, Value.func (Fn.yield 0) { toList := vs } { toList := [] }] } 29 (0, 0))] } else False else bif okTl (toArr (((Array.mk vs).toList.getD i.toNat undef).cells.toList.getD (0 + 1 + 1 + 1 + 1) undef)).toList && decide (0 ≤ toInt (((Array.mk vs).toList.getD i.toNat undef).cells.toList.getD 3 (Value.tuple { toList := [] }))) && decide (toInt (((Array.mk vs).toList.getD i.toNat undef).cells.toList.getD 3 (Value.tuple { toList := [] })) ≤ 1000) && decide (0 ≤ calls) && decide (calls ≤ 1000) then bif best.toList == (ByteArray.mk #[]).toList then NoNames (Obj.cells { toList := [P, Value.func (Fn.yield 0) { toList := vs } { toList := [] }] } 29 (0, 0)) ∧ B [Value.string { data := #[115, 104, 111, 112] }, Value.int IntKind.i64 calls, Value.pointer (some { block := 0, off := 0 }), Value.string (toStr (((Array.mk vs).toList.getD i.toNat undef).cells.toList.getD 0 (Value.tuple { toList := [] }))), Value.int IntKind.i64 (IntKind.i64.wrap (toInt (((Array.mk vs).toList.getD i.toNat undef).cells.toList.getD 2 (Value.tuple { toList := [] })) + prV (toArr (((Array.mk vs).toList.getD i.toNat undef).cells.toList.getD (0 + 1 + 1 + 1 + 1) undef)).toList (toInt (((Array.mk vs).toList.getD i.toNat undef).cells.toList.getD 3 (Value.tuple { toList := [] }))) calls)), Value.func (Fn.yield 0) { toList := vs } { toList := [] }, Value.int IntKind.i64 n, Value.int IntKind.i64 (IntKind.i64.wrap (i + 1))] { next := 1, low := 1, blocks := [(0, Obj.cells { toList := [P, Value.func (Fn.yield 0) { toList := vs } { toList := [] }] } 29 (0, 0))] } else bif decide (IntKind.i64.wrap (toInt (((Array.mk vs).toList.getD i.toNat undef).cells.toList.getD 2 (Value.tuple { toList := [] })) + prV (toArr (((Array.mk vs).toList.getD i.toNat undef).cells.toList.getD (0 + 1 + 1 + 1 + 1) undef)).toList (toInt (((Array.mk vs).toList.getD i.toNat undef).cells.toList.getD 3 (Value.tuple { toList := [] }))) calls) < least) then NoNames (Obj.cells { toList := [P, Value.func (Fn.yield 0) { toList := vs } { toList := [] }] } 29 (0, 0)) ∧ B [Value.string { data := #[115, 104, 111, 112] }, Value.int IntKind.i64 calls, Value.pointer (some { block := 0, off := 0 }), Value.string (toStr (((Array.mk vs).toList.getD i.toNat undef).cells.toList.getD 0 (Value.tuple { toList := [] }))), Value.int IntKind.i64 (IntKind.i64.wrap (toInt (((Array.mk vs).toList.getD i.toNat undef).cells.toList.getD 2 (Value.tuple { toList := [] })) + prV (toArr (((Array.mk vs).toList.getD i.toNat undef).cells.toList.getD (0 + 1 + 1 + 1 + 1) undef)).toList (toInt (((Array.mk vs).toList.getD i.toNat undef).cells.toList.getD 3 (Value.tuple { toList := [] }))) calls)), Value.func (Fn.yield 0) { toList := vs } { toList := [] }, Value.int IntKind.i64 n, Value.int IntKind.i64 (IntKind.i64.wrap (i + 1))] { next := 1, low := 1, blocks := [(0, Obj.cells { toList := [P, Value.func (Fn.yield 0) { toList := vs } { toList := [] }] } 29 (0, 0))] } else NoNames (Obj.cells { toList := [P, Value.func (Fn.yield 0) { toList := vs } { toList := [] }] } 29 (0, 0)) ∧ B [Value.string { data := #[115, 104, 111, 112] }, Value.int IntKind.i64 calls, Value.pointer (some { block := 0, off := 0 }), Value.string best, Value.int IntKind.i64 least, Value.func (Fn.yield 0) { toList := vs } { toList := [] }, Value.int IntKind.i64 n, Value.int IntKind.i64 (IntKind.i64.wrap (i + 1))] { next := 1, low := 1, blocks := [(0, Obj.cells { toList := [P, Value.func (Fn.yield 0) { toList := vs } { toList := [] }] } 29 (0, 0))] } else False else False else Q (AExit.exit 0) [Value.string best, Value.int IntKind.i64 least] { next := 0, low := 0, blocks := [] } := by kernel_rfl
theorem chf (P : Value) (vs : List Value) (calls least : Int) (best : ByteArray) (C : List Value → AH → Prop) (Q : Value → Prop) : (tfn Tryz.prog SH2 [] (hook1 11 (hookLS 0 75 [1, 2, 3, 12, 13, 33, 34, 35] [0] [12, 13] (fun vals h K => C vals h ∧ K (.exit 0) [.string best, .int .i64 least] h0))) 400 [] Tryz.f6 [.agg ⟨[P, fz ⟨vs⟩]⟩, .string ⟨#[115, 104, 111, 112]⟩, .int .i64 calls] h0 (fun v _ => Q v)) = bif okP P && okV vs then bif okP P && true && true then bif decide (calls < 0) then Q (Value.tuple { toList := [Value.string { data := #[] }, Value.int IntKind.i64 0, Value.int IntKind.i64 1] }) else bif decide (calls > 1000000000000) then Q (Value.tuple { toList := [Value.string { data := #[] }, Value.int IntKind.i64 0, Value.int IntKind.i64 1] }) else NoNames (Obj.cells { toList := [P, Value.func (Fn.yield 0) { toList := vs } { toList := [] }] } 29 (0, 0)) ∧ C [Value.string { data := #[115, 104, 111, 112] }, Value.int IntKind.i64 calls, Value.pointer (some { block := 0, off := 0 }), Value.string { data := #[] }, Value.int IntKind.i64 0, Value.func (Fn.yield 0) { toList := vs } { toList := [] }, Value.int IntKind.i64 ((Array.mk vs).size : Int), Value.int IntKind.i64 0] { next := 1, low := 1, blocks := [(0, Obj.cells { toList := [P, Value.func (Fn.yield 0) { toList := vs } { toList := [] }] } 29 (0, 0))] } ∧ bif best.toList == (ByteArray.mk #[]).toList then Q (Value.tuple { toList := [Value.string { data := #[] }, Value.int IntKind.i64 0, Value.int IntKind.i64 8] }) else Q (Value.tuple { toList := [Value.string best, Value.int IntKind.i64 least, Value.int IntKind.i64 0] }) else False else False := by kernel_rfl

def chT (p : Pl) (calls least : Int) (best : ByteArray) (B : ByteArray → Int → Prop) : Prop :=
  bif !(p.prod.toList == (ByteArray.mk #[115, 104, 111, 112]).toList) then B best least else
    bif decide (p.limit ≥ 0) then bif decide (p.limit < calls) then B best least else
      bif okTl (p.tiers.map tierE) && decide (0 ≤ p.free) && decide (p.free ≤ 1000) && decide (0 ≤ calls) && decide (calls ≤ 1000) then
        bif best.toList == (ByteArray.mk #[]).toList then B p.key (IntKind.i64.wrap (p.base + prV (p.tiers.map tierE) p.free calls)) else
          bif decide (IntKind.i64.wrap (p.base + prV (p.tiers.map tierE) p.free calls) < least) then B p.key (IntKind.i64.wrap (p.base + prV (p.tiers.map tierE) p.free calls)) else B best least else False
    else bif okTl (p.tiers.map tierE) && decide (0 ≤ p.free) && decide (p.free ≤ 1000) && decide (0 ≤ calls) && decide (calls ≤ 1000) then
        bif best.toList == (ByteArray.mk #[]).toList then B p.key (IntKind.i64.wrap (p.base + prV (p.tiers.map tierE) p.free calls)) else
          bif decide (IntKind.i64.wrap (p.base + prV (p.tiers.map tierE) p.free calls) < least) then B p.key (IntKind.i64.wrap (p.base + prV (p.tiers.map tierE) p.free calls)) else B best least else False
theorem chp (P : Value) (vs : List Value) (calls n i least : Int) (best : ByteArray) (p : Pl) (hp : (Array.mk vs).toList.getD i.toNat undef = plV p) (B : List Value → AH → Prop) (Q : AExit → List Value → AH → Prop) :
    once 0 Tryz.prog SH1 [] noHooks 400 75 [1, 2, 3, 12, 13, 33, 34, 35] [0] [12, 13] [] (oneLoop (codeOf Tryz.f6) 11) [.string ⟨#[115, 104, 111, 112]⟩, .int .i64 calls, .pointer (some ⟨0, 0, none⟩), .string best, .int .i64 least, fz ⟨vs⟩, .int .i64 n, .int .i64 i] (hC P vs) B Q =
      bif decide (i < n) then bif decide (0 ≤ i) && decide (i < ((Array.mk vs).size : Int)) && true then
        (Array.mk vs).toList.getD i.toNat (Value.tuple { toList := [] }) = plV p ∧ chT p calls least best (fun b l => NoNames (.cells ⟨[P, fz ⟨vs⟩]⟩ 29 (0, 0)) ∧ B [.string ⟨#[115, 104, 111, 112]⟩, .int .i64 calls, .pointer (some ⟨0, 0, none⟩), .string b, .int .i64 l, fz ⟨vs⟩, .int .i64 n, .int .i64 (IntKind.i64.wrap (i + 1))] (hC P vs))
      else False else Q (.exit 0) [.string best, .int .i64 least] h0 := by
  rw [chr, hp]
  kernel_rfl
def chB : Option (Pl × Int) → ByteArray × Int
  | none => (⟨#[]⟩, 0)
  | some (q, n) => (q.key, n)
def fitS (calls : Int) (p : Pl) : Bool := isShop p.prod && (decide (p.limit < 0) || decide (calls ≤ p.limit))
def chStep (calls : Int) (p : Pl) (s : Option (Pl × Int)) : Option (Pl × Int) :=
  cond (fitS calls p) (match s with
    | none => some (p, p.cost calls)
    | some (q, n) => cond (decide (p.cost calls < n)) (some (p, p.cost calls)) (some (q, n))) s
theorem cheap_cons (calls : Int) (p : Pl) (l : List Pl) (s : Option (Pl × Int)) : cheapF (fitS calls) calls (p :: l) s = cheapF (fitS calls) calls l (chStep calls p s) := rfl
/-- Keys that are not empty. -/
def nek (k : ByteArray) : Prop := (k.toList == (ByteArray.mk #[]).toList) = false
theorem nek_all : ∀ ks ∈ keyS, ∀ k ∈ ks, nek k := by
  unfold nek
  decide +kernel
theorem nek_of {L : List Pl} (h : Lok L) {p : Pl} (hp : p ∈ L) : nek p.key := nek_all _ h.1 _ (List.mem_map.2 ⟨p, hp, rfl⟩)
theorem empty_self : ((ByteArray.mk #[]).toList == (ByteArray.mk #[]).toList) = true := beq_self_eq_true _
theorem maps_shop : (⟨#[109, 97, 112, 115]⟩ : ByteArray).toList == (ByteArray.mk #[115, 104, 111, 112]).toList → False := by
  have : ((⟨#[109, 97, 112, 115]⟩ : ByteArray).toList == (ByteArray.mk #[115, 104, 111, 112]).toList) = false := by decide +kernel
  rw [this]; exact fun h => by cases h
theorem prod_test {p : Pl} (o : okPl p) : (p.prod.toList == (ByteArray.mk #[115, 104, 111, 112]).toList) = isShop p.prod := by
  rcases Bool.or_eq_true_iff.1 o.prod with q | q
  · rw [isMaps_eq q]; decide +kernel
  · rw [isShop_eq q]; decide +kernel
theorem cost_in {p : Pl} (o : okPl p) {calls : Int} (h1 : calls ≤ 1000) : 0 ≤ p.cost calls ∧ p.cost calls ≤ 10000 := by
  have h := price_bound (ts := p.tiers) o.tiers.1 (free := p.free) (calls := calls) o.free0 h1 o.tiers.2.1
  have := o.base0; have := o.base1
  unfold Pl.cost
  omega
theorem cost_wrap {p : Pl} (o : okPl p) {calls : Int} (h1 : calls ≤ 1000) : IntKind.i64.wrap (p.base + prV (p.tiers.map tierE) p.free calls) = p.cost calls := by
  rw [prV_pl]
  have := cost_in o h1
  exact wrap_id (p.cost calls) (by omega) (by omega)
theorem ch_step {p : Pl} (o : okPl p) {calls : Int} (c0 : 0 ≤ calls) (c1 : calls ≤ 1000) (s : Option (Pl × Int)) (hs : ∀ q n, s = some (q, n) → nek q.key) {B : ByteArray → Int → Prop} (hB : B (chB (chStep calls p s)).1 (chB (chStep calls p s)).2) :
    chT p calls (chB s).2 (chB s).1 B := by
  have f0 := o.free0
  have f1 := o.free1
  have hok : (okTl (p.tiers.map tierE) && decide (0 ≤ p.free) && decide (p.free ≤ 1000) && decide (0 ≤ calls) && decide (calls ≤ 1000)) = true := by
    rw [tl_ok o]
    simp; omega
  have body : fitS calls p = true → bif okTl (p.tiers.map tierE) && decide (0 ≤ p.free) && decide (p.free ≤ 1000) && decide (0 ≤ calls) && decide (calls ≤ 1000) then
        bif (chB s).1.toList == (ByteArray.mk #[]).toList then B p.key (IntKind.i64.wrap (p.base + prV (p.tiers.map tierE) p.free calls)) else
          bif decide (IntKind.i64.wrap (p.base + prV (p.tiers.map tierE) p.free calls) < (chB s).2) then B p.key (IntKind.i64.wrap (p.base + prV (p.tiers.map tierE) p.free calls)) else B (chB s).1 (chB s).2 else False := by
    intro hf
    refine need_mk hok ?_
    rw [cost_wrap o c1]
    unfold chStep at hB
    rw [hf, cond_true] at hB
    match s, hs, hB with
    | none, _, hB => exact pick_t empty_self hB
    | some (q, n), hs, hB =>
      refine pick_f (hs q n rfl) ?_
      show bif decide (p.cost calls < n) then B p.key (p.cost calls) else B q.key n
      simp only at hB
      by_cases hlt : p.cost calls < n
      · rw [decide_eq_true hlt] at hB ⊢; exact hB
      · rw [decide_eq_false hlt] at hB ⊢; exact hB
  have skip : fitS calls p = false → B (chB s).1 (chB s).2 := by
    intro hf
    unfold chStep at hB
    rw [hf] at hB
    exact hB
  unfold chT
  rw [prod_test o]
  cases hsh : isShop p.prod with
  | false => exact skip (by unfold fitS; rw [hsh]; rfl)
  | true =>
    refine pick_f rfl ?_
    by_cases hl : p.limit ≥ 0
    · refine pick_t (decide_eq_true hl) ?_
      by_cases hl2 : p.limit < calls
      · exact pick_t (decide_eq_true hl2) (skip (by unfold fitS; rw [hsh, decide_eq_false (by omega), decide_eq_false (by omega)]; rfl))
      · exact pick_f (decide_eq_false hl2) (body (by unfold fitS; rw [hsh, decide_eq_true (show calls ≤ p.limit by omega), Bool.or_true]; rfl))
    · exact pick_f (decide_eq_false hl) (body (by unfold fitS; rw [hsh, decide_eq_true (show p.limit < 0 by omega)]; rfl))
theorem step_mem {calls : Int} {p : Pl} {s : Option (Pl × Int)} {L : List Pl} (hp : p ∈ L) (hs : ∀ q n, s = some (q, n) → q ∈ L) : ∀ q n, chStep calls p s = some (q, n) → q ∈ L := by
  intro q n h
  unfold chStep at h
  cases hf : fitS calls p with
  | false => rw [hf] at h; exact hs q n h
  | true =>
    rw [hf, cond_true] at h
    match s, hs, h with
    | none, _, h => cases h; exact hp
    | some (r, m), hs, h =>
      simp only at h
      cases hd : decide (p.cost calls < m) with
      | true => rw [hd] at h; cases h; exact hp
      | false => rw [hd] at h; exact hs q n h
theorem nnC {P : Value} (hP : p1 P = true) (vs : List Value) : NoNames (.cells ⟨[P, fz ⟨vs⟩]⟩ 29 (0, 0)) := by
  intro v hv
  have hv : v ∈ [P, fz ⟨vs⟩] := hv
  simp only [List.mem_cons, List.not_mem_nil, or_false] at hv
  rcases hv with rfl | rfl
  · exact hP
  · rfl
theorem dropPl {L : List Pl} {i : Nat} (hi : i < L.length) : ∃ p, p ∈ L ∧ L[i]? = some p ∧ L.drop i = p :: L.drop (i + 1) :=
  ⟨L[i], List.getElem_mem hi, List.getElem?_eq_getElem hi, List.drop_eq_getElem_cons hi⟩
theorem getPl {L : List Pl} {i : Nat} {p : Pl} (h : L[i]? = some p) : (Array.mk (L.map plV)).toList.getD (i : Int).toNat undef = plV p := by
  have : ((L.map plV)[i]?).getD undef = plV p := by rw [List.getElem?_map, h]; rfl
  simpa [List.getD] using this
theorem ch_loop {P : Value} (hP : okP P = true) {L : List Pl} (hL : Lok L) {calls : Int} (c0 : 0 ≤ calls) (c1 : calls ≤ 1000) (hl : L.length ≤ 4) (K : AExit → List Value → AH → Prop) :
    ∀ (r i : Nat) (s : Option (Pl × Int)), i + r = L.length → (∀ q n, s = some (q, n) → q ∈ L) → K (.exit 0) [.string (chB (cheapF (fitS calls) calls (L.drop i) s)).1, .int .i64 (chB (cheapF (fitS calls) calls (L.drop i) s)).2] h0 →
      iter 0 Tryz.prog SH1 [] noHooks 400 75 [1, 2, 3, 12, 13, 33, 34, 35] [0] [12, 13] [] (oneLoop (codeOf Tryz.f6) 11) (r + 1) [.string ⟨#[115, 104, 111, 112]⟩, .int .i64 calls, .pointer (some ⟨0, 0, none⟩), .string (chB s).1, .int .i64 (chB s).2, fz ⟨L.map plV⟩, .int .i64 (L.length : Int), .int .i64 (i : Int)] (hC P (L.map plV)) K := by
  intro r
  induction r with
  | zero =>
    intro i s h1 h2 h3
    rw [List.drop_eq_nil_of_le (by omega)] at h3
    exact (chr _ _ _ _ _ _ _ _ K).mpr (pick_f (by simp; omega) h3)
  | succ r ih =>
    intro i s h1 h2 h3
    have hi : i < L.length := by omega
    obtain ⟨p, hp, hget, hdr⟩ := dropPl hi
    rw [hdr, cheap_cons] at h3
    have ew : IntKind.i64.wrap ((i : Int) + 1) = ((i + 1 : Nat) : Int) := by rw [wrap_id _ (by omega) (by omega)]; rfl
    refine (chp P (L.map plV) calls _ _ _ _ p (getPl hget) _ K).mpr (pick_t (by simp; omega) (need_mk (by simp; omega) ⟨getPl hget, ch_step (hL.2 p hp) c0 c1 s (fun q n e => nek_of hL (h2 q n e)) ⟨nnC (okP_p1 hP) _, ?_⟩⟩))
    rw [ew]
    exact ih (i + 1) (chStep calls p s) (by omega) (step_mem hp h2) h3
theorem ch_ex {P : Value} (hP : okP P = true) {L : List Pl} (hL : Lok L) {calls : Int} (c0 : 0 ≤ calls) (c1 : calls ≤ 1000) (hl : L.length ≤ 4) (K : AExit → List Value → AH → Prop)
    (hK : K (.exit 0) [.string (chB (cheapF (fitS calls) calls L none)).1, .int .i64 (chB (cheapF (fitS calls) calls L none)).2] h0) :
    ∃ n, iter 0 Tryz.prog SH1 [] noHooks 400 75 [1, 2, 3, 12, 13, 33, 34, 35] [0] [12, 13] [] (oneLoop (codeOf Tryz.f6) 11) n [.string ⟨#[115, 104, 111, 112]⟩, .int .i64 calls, .pointer (some ⟨0, 0, none⟩), .string ⟨#[]⟩, .int .i64 0, fz ⟨L.map plV⟩, .int .i64 (L.length : Int), .int .i64 0] (hC P (L.map plV)) K :=
  ⟨_, ch_loop hP hL c0 c1 hl K L.length 0 none (by omega) (fun q n e => by cases e) hK⟩
theorem one11 : (loopAt (codeOf Tryz.f6) 11).length = 1 := by kernel_rfl
theorem someCH : Tryz.f6.body.isSome = true := by kernel_rfl
theorem keyS_len : ∀ ks ∈ keyS, ks.length ≤ 4 := by decide
theorem Lok_len {L : List Pl} (h : Lok L) : L.length ≤ 4 := by
  have := keyS_len _ h.1
  rwa [List.length_map] at this
def chE : Option (Pl × Int) → Int
  | none => 8
  | some _ => 0
theorem cheap_mem (calls : Int) {L : List Pl} : ∀ (l : List Pl) (s : Option (Pl × Int)), (∀ p ∈ l, p ∈ L) → (∀ q n, s = some (q, n) → q ∈ L) → ∀ q n, cheapF (fitS calls) calls l s = some (q, n) → q ∈ L
  | [], s, _, hs => hs
  | p :: l, s, hl, hs => cheap_mem calls l (chStep calls p s) (fun q hq => hl q (by simp [hq])) (step_mem (hl p (by simp)) hs)
theorem ch_fn {P : Value} (hP : okP P = true) {vs : List Value} (hV : okV vs = true) {calls : Int} (c0 : 0 ≤ calls) (c1 : calls ≤ 1000) :
    FnOK 0 Tryz.prog 6 ⟨[.agg ⟨[P, fz ⟨vs⟩]⟩, .string ⟨#[115, 104, 111, 112]⟩, .int .i64 calls]⟩ h0 (fun v _ => v = .tuple ⟨[.string (chB (cheapF (fitS calls) calls (vs.map unPl) none)).1, .int .i64 (chB (cheapF (fitS calls) calls (vs.map unPl) none)).2, .int .i64 (chE (cheapF (fitS calls) calls (vs.map unPl) none))]⟩) := by
  have hV2 := hV
  obtain ⟨L, hL, rfl⟩ := okV_iff.1 hV
  rw [unPl_map]
  have hlen := Lok_len hL
  have hsp : LSpec 0 Tryz.prog 75 (oneLoop (codeOf Tryz.f6) 11) (hookLS 0 75 [1, 2, 3, 12, 13, 33, 34, 35] [0] [12, 13] (fun vals h K => (vals = [.string ⟨#[115, 104, 111, 112]⟩, .int .i64 calls, .pointer (some ⟨0, 0, none⟩), .string ⟨#[]⟩, .int .i64 0, fz ⟨L.map plV⟩, .int .i64 (L.length : Int), .int .i64 0] ∧ h = hC P (L.map plV)) ∧
      K (.exit 0) [.string (chB (cheapF (fitS calls) calls L none)).1, .int .i64 (chB (cheapF (fitS calls) calls L none)).2] h0)) := by
    refine hook_ok (G := []) (L := noHooks) (f := 400) (sameX := []) SH1_ok mixed (by decide) (loops_none _ _ _ _) ?_
    rintro vals h K ⟨⟨rfl, rfl⟩, hK⟩
    exact ch_ex hP hL c0 c1 hlen K hK
  refine FnOK.ttree SH2_ok mixed Tryz.func6 someCH (loops_one one11 hsp) (chf P (L.map plV) calls _ _ _ (fun v => v = .tuple ⟨[.string (chB (cheapF (fitS calls) calls L none)).1, .int .i64 (chB (cheapF (fitS calls) calls L none)).2, .int .i64 (chE (cheapF (fitS calls) calls L none))]⟩)) ?_
  refine need_mk (by rw [hP, hV2]; rfl) (need_mk (by rw [hP]; rfl) (pick_f (decide_eq_false (by omega)) (pick_f (decide_eq_false (by omega)) ⟨nnC (okP_p1 hP) _, ⟨?_, rfl⟩, ?_⟩)))
  · simp
    rfl
  · have hm := cheap_mem calls (L := L) L none (fun p hp => hp) (fun q n e => by cases e)
    cases hr : cheapF (fitS calls) calls L none with
    | none => exact pick_t empty_self rfl
    | some qn =>
      obtain ⟨q, n⟩ := qn
      exact pick_f (nek_of hL (hm q n hr)) rfl
noncomputable def spCh (f : FuncId) (args : Array Value) (h : AH) : Option (Bool × Value × AH) :=
  cond (Nat.beq f 6) (match args with
    | ⟨[.agg ⟨[P, .func (.yield 0) ⟨vs⟩ ⟨[]⟩]⟩, .string k, .int .i64 calls]⟩ => some (okP P && okV vs && isShop k && decide (0 ≤ calls) && decide (calls ≤ 1000),
      .tuple ⟨[.string (chB (cheapF (fitS calls) calls (vs.map unPl) none)).1, .int .i64 (chB (cheapF (fitS calls) calls (vs.map unPl) none)).2, .int .i64 (chE (cheapF (fitS calls) calls (vs.map unPl) none))]⟩, h)
    | _ => none) none
theorem spCh_ok : SpOK spCh := by
  intro f args h v h' hs
  unfold spCh at hs
  obtain ⟨hf, hs2⟩ := cond_some hs
  clear hs
  have := Nat.eq_of_beq_eq_true hf
  subst this
  split at hs2
  · injection hs2 with hs
    injection hs with hb hs
    injection hs with hv hh
    subst hv hh
    simp only [Bool.and_eq_true, decide_eq_true_eq] at hb
    obtain ⟨⟨⟨⟨b0, b1⟩, b2⟩, b3⟩, b4⟩ := hb
    have b2 := isShop_eq b2
    subst b2
    refine ⟨FnOK.pure (ch_fn b0 b1 b3 b4) ?_ rfl h, Nat.le_refl _⟩
    show (List.all [_, _] p1 && _) = true
    simp only [List.all_cons, List.all_nil, okP_p1 b0]
    rfl
  · cases hs2
end Go.Proofs.YtfepnpffbhjakaaGreatDoor
