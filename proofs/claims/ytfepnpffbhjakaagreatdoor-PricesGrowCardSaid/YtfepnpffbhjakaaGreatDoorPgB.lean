/-
  Plans with tiers: what they cost, as plain laws; the functions 'price', 'tiersFault', 'productsFault', 'productAt' as specifications.
-/
import Derived.Test.YtfepnpffbhjakaaGreatDoorPgA
namespace PriceLaw

/-- The end of a tier. -/
def toOf (above : Int) : List (Int × Int) → Int
  | [] => above
  | (g, _) :: _ => min above (g - 1)
def tierSum (above : Int) : List (Int × Int) → Int
  | [] => 0
  | (f, c) :: l => max 0 (toOf above l - f + 1) * c + tierSum above l
def price (ts : List (Int × Int)) (free calls : Int) : Int := Int.tdiv (tierSum (max 0 (calls - free)) ts) 1000
def okT (l : List (Int × Int)) : Prop := ∀ t ∈ l, 0 ≤ t.2 ∧ t.2 ≤ 1500 ∧ 1 ≤ t.1 ∧ t.1 ≤ 1000

theorem toOf_mono {a b : Int} (h : a ≤ b) (l : List (Int × Int)) : toOf a l ≤ toOf b l := by
  cases l with
  | nil => exact h
  | cons t l => simp only [toOf]; omega
theorem toOf_le (a : Int) (l : List (Int × Int)) : toOf a l ≤ a := by
  cases l with
  | nil => exact Int.le_refl _
  | cons t l => simp only [toOf]; omega
theorem tierSum_mono {a b : Int} (h : a ≤ b) : ∀ l : List (Int × Int), okT l → tierSum a l ≤ tierSum b l
  | [], _ => Int.le_refl _
  | (f, c) :: l, k => by
    have h1 := k (f, c) (by simp)
    have h2 := tierSum_mono h l (fun t ht => k t (by simp [ht]))
    have h3 := toOf_mono h l
    have h4 : max 0 (toOf a l - f + 1) ≤ max 0 (toOf b l - f + 1) := by omega
    have h5 : max 0 (toOf a l - f + 1) * c ≤ max 0 (toOf b l - f + 1) * c := Int.mul_le_mul_of_nonneg_right h4 h1.1
    show max 0 (toOf a l - f + 1) * c + tierSum a l ≤ max 0 (toOf b l - f + 1) * c + tierSum b l
    omega
theorem tierSum_bound {a : Int} (h0 : 0 ≤ a) (h : a ≤ 1000) : ∀ l : List (Int × Int), okT l → 0 ≤ tierSum a l ∧ tierSum a l ≤ 1501500 * l.length
  | [], _ => ⟨Int.le_refl _, by simp [tierSum]⟩
  | (f, c) :: l, k => by
    have h1 := k (f, c) (by simp)
    have h2 := tierSum_bound h0 h l (fun t ht => k t (by simp [ht]))
    have h3 := toOf_le a l
    have h4 : max 0 (toOf a l - f + 1) ≤ 1001 := by have := h1.2.2.1; simp only at this; omega
    have h5 : 0 ≤ max 0 (toOf a l - f + 1) := by omega
    have h6 : max 0 (toOf a l - f + 1) * c ≤ 1001 * 1500 := Int.mul_le_mul h4 h1.2.1 h1.1 (by omega)
    have h7 : 0 ≤ max 0 (toOf a l - f + 1) * c := Int.mul_nonneg h5 h1.1
    simp only [tierSum, List.length_cons]
    have : ((l.length + 1 : Nat) : Int) = (l.length : Int) + 1 := by omega
    constructor
    · omega
    · rw [this]; omega
theorem price_mono {ts : List (Int × Int)} (h : okT ts) {free a b : Int} (hab : a ≤ b) : price ts free a ≤ price ts free b := by
  unfold price
  have h1 : max 0 (a - free) ≤ max 0 (b - free) := by omega
  have h2 := tierSum_mono h1 ts h
  have h3 : 0 ≤ tierSum (max 0 (a - free)) ts := by
    have := tierSum_mono (a := 0) (b := max 0 (a - free)) (by omega) ts h
    have : 0 ≤ tierSum 0 ts := (tierSum_bound (by omega) (by omega) ts h).1
    omega
  rw [Int.tdiv_eq_ediv_of_nonneg h3, Int.tdiv_eq_ediv_of_nonneg (by omega)]
  exact Int.ediv_le_ediv (by omega) h2
theorem price_bound {ts : List (Int × Int)} (h : okT ts) {free calls : Int} (hf : 0 ≤ free) (h1 : calls ≤ 1000) (hl : ts.length ≤ 3) : 0 ≤ price ts free calls ∧ price ts free calls ≤ 4600 := by
  have h2 := tierSum_bound (a := max 0 (calls - free)) (by omega) (by omega) ts h
  unfold price
  rw [Int.tdiv_eq_ediv_of_nonneg h2.1]
  have : (ts.length : Int) ≤ 3 := by omega
  constructor
  · exact Int.ediv_nonneg h2.1 (by omega)
  · omega

/-- A plan. -/
structure Pl where
  key : ByteArray
  prod : ByteArray
  base : Int
  free : Int
  tiers : List (Int × Int)
  limit : Int
  trial : Int
  asked : Bool
def Pl.cost (p : Pl) (calls : Int) : Int := p.base + price p.tiers p.free calls
/-- What Cheapest does with a plan (fits: for the product, and with so many calls). -/
def cheapF (fits : Pl → Bool) (calls : Int) : List Pl → Option (Pl × Int) → Option (Pl × Int)
  | [], s => s
  | p :: l, s => cheapF fits calls l (cond (fits p) (match s with
    | none => some (p, p.cost calls)
    | some (q, n) => cond (decide (p.cost calls < n)) (some (p, p.cost calls)) (some (q, n))) s)
def Good (fits : Pl → Bool) (calls : Int) (seen : List Pl) : Option (Pl × Int) → Prop
  | none => ∀ p ∈ seen, fits p = false
  | some (q, n) => q ∈ seen ∧ fits q = true ∧ n = q.cost calls ∧ ∀ p ∈ seen, fits p = true → n ≤ p.cost calls
theorem cheap_good (fits : Pl → Bool) (calls : Int) : ∀ (l seen : List Pl) (s : Option (Pl × Int)), Good fits calls seen s → Good fits calls (seen ++ l) (cheapF fits calls l s)
  | [], seen, s, h => by rw [List.append_nil]; exact h
  | p :: l, seen, s, h => by
    have e : seen ++ p :: l = (seen ++ [p]) ++ l := by simp
    rw [e]
    refine cheap_good fits calls l (seen ++ [p]) _ ?_
    cases hp : fits p with
    | false =>
      match s, h with
      | none, h =>
        intro q hq
        rcases List.mem_append.1 hq with a | a
        · exact h q a
        · rw [List.mem_singleton.1 a]; exact hp
      | some (q, n), h =>
        obtain ⟨a, b, c, d⟩ := h
        refine ⟨List.mem_append.2 (Or.inl a), b, c, fun r hr hf => ?_⟩
        rcases List.mem_append.1 hr with x | x
        · exact d r x hf
        · rw [List.mem_singleton.1 x, hp] at hf; cases hf
    | true =>
      match s, h with
      | none, h =>
        refine ⟨by simp, hp, rfl, fun r hr hf => ?_⟩
        rcases List.mem_append.1 hr with x | x
        · rw [h r x] at hf; cases hf
        · rw [List.mem_singleton.1 x]; exact Int.le_refl _
      | some (q, n), h =>
        obtain ⟨a, b, c, d⟩ := h
        show Good fits calls (seen ++ [p]) (cond (decide (p.cost calls < n)) (some (p, p.cost calls)) (some (q, n)))
        by_cases hlt : p.cost calls < n
        · rw [decide_eq_true hlt, cond_true]
          refine ⟨by simp, hp, rfl, fun r hr hf => ?_⟩
          rcases List.mem_append.1 hr with x | x
          · have := d r x hf; omega
          · rw [List.mem_singleton.1 x]; exact Int.le_refl _
        · rw [decide_eq_false hlt, cond_false]
          refine ⟨List.mem_append.2 (Or.inl a), b, c, fun r hr hf => ?_⟩
          rcases List.mem_append.1 hr with x | x
          · exact d r x hf
          · rw [List.mem_singleton.1 x]; omega
theorem key_inj : ∀ {l : List Pl}, l.Pairwise (fun a b => a.key ≠ b.key) → ∀ {p q : Pl}, p ∈ l → q ∈ l → p.key = q.key → p = q
  | [], _, _, _, hp, _, _ => by cases hp
  | x :: l, hd, p, q, hp, hq, hk => by
    obtain ⟨d1, d2⟩ := List.pairwise_cons.1 hd
    rcases List.mem_cons.1 hp with e | hp
    · rcases List.mem_cons.1 hq with e2 | hq
      · rw [e, e2]
      · exact absurd (e ▸ hk) (d1 q hq)
    · rcases List.mem_cons.1 hq with e2 | hq
      · exact absurd (e2 ▸ hk).symm (d1 p hp)
      · exact key_inj d2 hp hq hk
/-- The law's words about a plan of a list whose keys differ. -/
theorem cheap_law {fits : Pl → Bool} {calls : Int} {l : List Pl} (hd : l.Pairwise (fun a b => a.key ≠ b.key)) {p : Pl} (hp : p ∈ l) :
    match cheapF fits calls l none with
    | none => fits p = false
    | some (q, n) => (fits p = true → n ≤ p.cost calls) ∧ (p.key = q.key → fits p = true ∧ n = p.cost calls) := by
  have g := cheap_good fits calls l [] none (fun p hp => by cases hp)
  rw [List.nil_append] at g
  match hc : cheapF fits calls l none, g with
  | none, g => exact g p hp
  | some (q, n), g =>
    obtain ⟨a, b, c, d⟩ := g
    refine ⟨fun hf => d p hp hf, fun hk => ?_⟩
    have e : p = q := key_inj hd hp a hk
    subst e
    exact ⟨b, c⟩
end PriceLaw

namespace Go.Proofs.YtfepnpffbhjakaaGreatDoor
open Go.Ev Go.RowKit PriceLaw

def tierE (t : Int × Int) : Value := .agg ⟨[.int .i64 t.1, .int .i64 t.2]⟩
def unE : Value → Int × Int
  | .agg ⟨[.int _ f, .int _ c]⟩ => (f, c)
  | _ => (0, 0)
theorem unE_map : ∀ l : List (Int × Int), (l.map tierE).map unE = l
  | [] => rfl
  | (f, c) :: l => by
    have := unE_map l
    simp only [List.map_cons, this]
    rfl
/-- Tiers that rise. -/
def riseT (f : Int) : List (Int × Int) → Prop
  | [] => True
  | t :: l => f < t.1 ∧ riseT t.1 l
def okTs (l : List (Int × Int)) : Prop := okT l ∧ l.length ≤ 3 ∧ (match l with | [] => True | t :: l => t.1 = 1 ∧ riseT t.1 l)
open Classical in
noncomputable def okTl (ts : List Value) : Bool := decide (∃ l, okTs l ∧ ts = l.map tierE)
open Classical in
theorem okTl_iff {ts : List Value} : okTl ts = true ↔ ∃ l, okTs l ∧ ts = l.map tierE := by unfold okTl; exact decide_eq_true_iff
def prV (ts : List Value) (free calls : Int) : Int := price (ts.map unE) free calls
theorem okScs_one {v : Value} (h : okScs v = true) : oneCell v = true := by
  unfold okScs at h
  split at h
  · rfl
  · rfl
  · cases h
def SB1 : SC := ⟨idn, spOr spKy spCk, false, false⟩
def SB0 : SC := ⟨idn, fun _ _ _ => none, false, false⟩
theorem SB1_ok : SB1.cfg.OK Tryz.prog := (spKy_ok.or spCk_ok).cfg
theorem SB0_ok : SB0.cfg.OK Tryz.prog := none_ok.cfg
theorem someTF : Tryz.f50.body.isSome = true := by kernel_rfl
theorem somePR : Tryz.f17.body.isSome = true := by kernel_rfl
theorem somePF : Tryz.f25.body.isSome = true := by kernel_rfl
theorem somePA : Tryz.f15.body.isSome = true := by kernel_rfl
theorem tf1 (f0 c0 : Int) (Q : Value → Prop) : (ffn Tryz.prog SB0 [] 2000 [] Tryz.f50 [fz ⟨[.agg ⟨[.int .i64 f0, .int .i64 c0]⟩]⟩] h0 (fun v _ => Q v)) = bif decide (f0 < 1) then Q (Value.int IntKind.i64 1) else bif decide (f0 > 1000000000000) then Q (Value.int IntKind.i64 1) else bif decide (c0 < 0) then Q (Value.int IntKind.i64 1) else bif decide (c0 > 1000000) then Q (Value.int IntKind.i64 1) else bif f0 != 1 then Q (Value.int IntKind.i64 3) else Q (Value.int IntKind.i64 0) := by kernel_rfl
theorem tf2 (f0 c0 f1 c1 : Int) (Q : Value → Prop) : (ffn Tryz.prog SB0 [] 2000 [] Tryz.f50 [fz ⟨[.agg ⟨[.int .i64 f0, .int .i64 c0]⟩, .agg ⟨[.int .i64 f1, .int .i64 c1]⟩]⟩] h0 (fun v _ => Q v)) = bif decide (f0 < 1) then Q (Value.int IntKind.i64 1) else bif decide (f0 > 1000000000000) then Q (Value.int IntKind.i64 1) else bif decide (c0 < 0) then Q (Value.int IntKind.i64 1) else bif decide (c0 > 1000000) then Q (Value.int IntKind.i64 1) else bif decide (f1 < 1) then Q (Value.int IntKind.i64 1) else bif decide (f1 > 1000000000000) then Q (Value.int IntKind.i64 1) else bif decide (c1 < 0) then Q (Value.int IntKind.i64 1) else bif decide (c1 > 1000000) then Q (Value.int IntKind.i64 1) else bif decide (f1 ≤ f0) then Q (Value.int IntKind.i64 7) else bif f0 != 1 then Q (Value.int IntKind.i64 3) else Q (Value.int IntKind.i64 0) := by kernel_rfl
theorem tf3 (f0 c0 f1 c1 f2 c2 : Int) (Q : Value → Prop) : (ffn Tryz.prog SB0 [] 2000 [] Tryz.f50 [fz ⟨[.agg ⟨[.int .i64 f0, .int .i64 c0]⟩, .agg ⟨[.int .i64 f1, .int .i64 c1]⟩, .agg ⟨[.int .i64 f2, .int .i64 c2]⟩]⟩] h0 (fun v _ => Q v)) = bif decide (f0 < 1) then Q (Value.int IntKind.i64 1) else bif decide (f0 > 1000000000000) then Q (Value.int IntKind.i64 1) else bif decide (c0 < 0) then Q (Value.int IntKind.i64 1) else bif decide (c0 > 1000000) then Q (Value.int IntKind.i64 1) else bif decide (f1 < 1) then Q (Value.int IntKind.i64 1) else bif decide (f1 > 1000000000000) then Q (Value.int IntKind.i64 1) else bif decide (c1 < 0) then Q (Value.int IntKind.i64 1) else bif decide (c1 > 1000000) then Q (Value.int IntKind.i64 1) else bif decide (f1 ≤ f0) then Q (Value.int IntKind.i64 7) else bif decide (f2 < 1) then Q (Value.int IntKind.i64 1) else bif decide (f2 > 1000000000000) then Q (Value.int IntKind.i64 1) else bif decide (c2 < 0) then Q (Value.int IntKind.i64 1) else bif decide (c2 > 1000000) then Q (Value.int IntKind.i64 1) else bif decide (f2 ≤ f1) then Q (Value.int IntKind.i64 7) else bif f0 != 1 then Q (Value.int IntKind.i64 3) else Q (Value.int IntKind.i64 0) := by kernel_rfl
theorem pr1 (key prod : ByteArray) (base free lim tri calls : Int) (ask : Bool) (f0 c0 : Int) (Q : Value → Prop) : (ffn Tryz.prog SB0 [] 2000 [] Tryz.f17 [.agg ⟨[.string key, .string prod, .int .i64 base, .int .i64 free, fz ⟨[.agg ⟨[.int .i64 f0, .int .i64 c0]⟩]⟩, .int .i64 lim, .int .i64 tri, .bool ask]⟩, .int .i64 calls] h0 (fun v _ => Q v)) = (Q (Value.int IntKind.i64 (IntKind.i64.wrap ((IntKind.i64.wrap (0 + IntKind.i64.wrap ((if IntKind.i64.wrap (IntKind.i64.wrap ((if IntKind.i64.wrap (calls - free) > 0 then IntKind.i64.wrap (calls - free) else 0) - f0) + 1) > 0 then IntKind.i64.wrap (IntKind.i64.wrap ((if IntKind.i64.wrap (calls - free) > 0 then IntKind.i64.wrap (calls - free) else 0) - f0) + 1) else 0) * c0))).tdiv 1000)))) := by kernel_rfl
theorem pr2 (key prod : ByteArray) (base free lim tri calls : Int) (ask : Bool) (f0 c0 f1 c1 : Int) (Q : Value → Prop) : (ffn Tryz.prog SB0 [] 2000 [] Tryz.f17 [.agg ⟨[.string key, .string prod, .int .i64 base, .int .i64 free, fz ⟨[.agg ⟨[.int .i64 f0, .int .i64 c0]⟩, .agg ⟨[.int .i64 f1, .int .i64 c1]⟩]⟩, .int .i64 lim, .int .i64 tri, .bool ask]⟩, .int .i64 calls] h0 (fun v _ => Q v)) = (Q (Value.int IntKind.i64 (IntKind.i64.wrap ((IntKind.i64.wrap (IntKind.i64.wrap (0 + IntKind.i64.wrap ((if IntKind.i64.wrap (IntKind.i64.wrap ((if IntKind.i64.wrap (f1 - 1) < if IntKind.i64.wrap (calls - free) > 0 then IntKind.i64.wrap (calls - free) else 0 then IntKind.i64.wrap (f1 - 1) else if IntKind.i64.wrap (calls - free) > 0 then IntKind.i64.wrap (calls - free) else 0) - f0) + 1) > 0 then IntKind.i64.wrap (IntKind.i64.wrap ((if IntKind.i64.wrap (f1 - 1) < if IntKind.i64.wrap (calls - free) > 0 then IntKind.i64.wrap (calls - free) else 0 then IntKind.i64.wrap (f1 - 1) else if IntKind.i64.wrap (calls - free) > 0 then IntKind.i64.wrap (calls - free) else 0) - f0) + 1) else 0) * c0)) + IntKind.i64.wrap ((if IntKind.i64.wrap (IntKind.i64.wrap ((if IntKind.i64.wrap (calls - free) > 0 then IntKind.i64.wrap (calls - free) else 0) - f1) + 1) > 0 then IntKind.i64.wrap (IntKind.i64.wrap ((if IntKind.i64.wrap (calls - free) > 0 then IntKind.i64.wrap (calls - free) else 0) - f1) + 1) else 0) * c1))).tdiv 1000)))) := by kernel_rfl
theorem pr3 (key prod : ByteArray) (base free lim tri calls : Int) (ask : Bool) (f0 c0 f1 c1 f2 c2 : Int) (Q : Value → Prop) : (ffn Tryz.prog SB0 [] 2000 [] Tryz.f17 [.agg ⟨[.string key, .string prod, .int .i64 base, .int .i64 free, fz ⟨[.agg ⟨[.int .i64 f0, .int .i64 c0]⟩, .agg ⟨[.int .i64 f1, .int .i64 c1]⟩, .agg ⟨[.int .i64 f2, .int .i64 c2]⟩]⟩, .int .i64 lim, .int .i64 tri, .bool ask]⟩, .int .i64 calls] h0 (fun v _ => Q v)) = (Q (Value.int IntKind.i64 (IntKind.i64.wrap ((IntKind.i64.wrap (IntKind.i64.wrap (IntKind.i64.wrap (0 + IntKind.i64.wrap ((if IntKind.i64.wrap (IntKind.i64.wrap ((if IntKind.i64.wrap (f1 - 1) < if IntKind.i64.wrap (calls - free) > 0 then IntKind.i64.wrap (calls - free) else 0 then IntKind.i64.wrap (f1 - 1) else if IntKind.i64.wrap (calls - free) > 0 then IntKind.i64.wrap (calls - free) else 0) - f0) + 1) > 0 then IntKind.i64.wrap (IntKind.i64.wrap ((if IntKind.i64.wrap (f1 - 1) < if IntKind.i64.wrap (calls - free) > 0 then IntKind.i64.wrap (calls - free) else 0 then IntKind.i64.wrap (f1 - 1) else if IntKind.i64.wrap (calls - free) > 0 then IntKind.i64.wrap (calls - free) else 0) - f0) + 1) else 0) * c0)) + IntKind.i64.wrap ((if IntKind.i64.wrap (IntKind.i64.wrap ((if IntKind.i64.wrap (f2 - 1) < if IntKind.i64.wrap (calls - free) > 0 then IntKind.i64.wrap (calls - free) else 0 then IntKind.i64.wrap (f2 - 1) else if IntKind.i64.wrap (calls - free) > 0 then IntKind.i64.wrap (calls - free) else 0) - f1) + 1) > 0 then IntKind.i64.wrap (IntKind.i64.wrap ((if IntKind.i64.wrap (f2 - 1) < if IntKind.i64.wrap (calls - free) > 0 then IntKind.i64.wrap (calls - free) else 0 then IntKind.i64.wrap (f2 - 1) else if IntKind.i64.wrap (calls - free) > 0 then IntKind.i64.wrap (calls - free) else 0) - f1) + 1) else 0) * c1)) + IntKind.i64.wrap ((if IntKind.i64.wrap (IntKind.i64.wrap ((if IntKind.i64.wrap (calls - free) > 0 then IntKind.i64.wrap (calls - free) else 0) - f2) + 1) > 0 then IntKind.i64.wrap (IntKind.i64.wrap ((if IntKind.i64.wrap (calls - free) > 0 then IntKind.i64.wrap (calls - free) else 0) - f2) + 1) else 0) * c2))).tdiv 1000)))) := by kernel_rfl
theorem pf (v : Value) (Q : Value → Prop) : (ffn Tryz.prog SB1 [] 2000 [] Tryz.f25 [fz ⟨[.agg ⟨[.string ⟨#[109, 97, 112, 115]⟩, v]⟩, .agg ⟨[.string ⟨#[115, 104, 111, 112]⟩, fz ⟨[.string ⟨#[111, 114, 100, 101, 114, 115]⟩]⟩]⟩]⟩] h0 (fun v _ => Q v)) = bif [Value.string { data := #[109, 97, 112, 115] }, v].all oneCell then bif okScs v then Q (Value.int IntKind.i64 0) else False else False := by kernel_rfl
theorem tfE (Q : Value → Prop) : ffn Tryz.prog SB0 [] 2000 [] Tryz.f50 [fz ⟨[]⟩] h0 (fun v _ => Q v) = Q (.int .i64 0) := by kernel_rfl
theorem prE (key prod : ByteArray) (base free lim tri calls : Int) (ask : Bool) (Q : Value → Prop) : ffn Tryz.prog SB0 [] 2000 [] Tryz.f17 [.agg ⟨[.string key, .string prod, .int .i64 base, .int .i64 free, fz ⟨[]⟩, .int .i64 lim, .int .i64 tri, .bool ask]⟩, .int .i64 calls] h0 (fun v _ => Q v) = Q (.int .i64 0) := by kernel_rfl
theorem pamapsE (v w : Value) (Q : Value → Prop) : ffn Tryz.prog SB1 [] 2000 [] Tryz.f15 [.agg ⟨[fz ⟨[.agg ⟨[.string ⟨#[109, 97, 112, 115]⟩, v]⟩, .agg ⟨[.string ⟨#[115, 104, 111, 112]⟩, fz ⟨[.string ⟨#[111, 114, 100, 101, 114, 115]⟩]⟩]⟩]⟩, w]⟩, .string ⟨#[109, 97, 112, 115]⟩] h0 (fun v _ => Q v) = Q (.tuple ⟨[.int .i64 0, .bool true]⟩) := by kernel_rfl
theorem pashopE (v w : Value) (Q : Value → Prop) : ffn Tryz.prog SB1 [] 2000 [] Tryz.f15 [.agg ⟨[fz ⟨[.agg ⟨[.string ⟨#[109, 97, 112, 115]⟩, v]⟩, .agg ⟨[.string ⟨#[115, 104, 111, 112]⟩, fz ⟨[.string ⟨#[111, 114, 100, 101, 114, 115]⟩]⟩]⟩]⟩, w]⟩, .string ⟨#[115, 104, 111, 112]⟩] h0 (fun v _ => Q v) = Q (.tuple ⟨[.int .i64 1, .bool true]⟩) := by kernel_rfl

theorem okT_at {l : List (Int × Int)} (h : okT l) {f c : Int} (hm : (f, c) ∈ l) : 0 ≤ c ∧ c ≤ 1500 ∧ 1 ≤ f ∧ f ≤ 1000 := h (f, c) hm
theorem tf_fn {ts : List Value} (h : okTl ts = true) : FnOK 0 Tryz.prog 50 ⟨[fz ⟨ts⟩]⟩ h0 (fun v _ => v = .int .i64 0) := by
  obtain ⟨l, ⟨h1, h2, h3⟩, rfl⟩ := okTl_iff.1 h
  match l, h1, h2, h3 with
  | [], _, _, _ => exact FnOK.ftree SB0_ok mixed Tryz.func50 someTF (tfE (fun v => v = .int .i64 0)) rfl
  | [(f0, c0)], h1, _, ⟨e, _⟩ =>
    have a0 := okT_at h1 (f := f0) (c := c0) (by simp)
    simp only at e
    refine FnOK.ftree SB0_ok mixed Tryz.func50 someTF (tf1 f0 c0 (fun v => v = .int .i64 0)) ?_
    repeat refine pick_f (decide_eq_false (by omega)) ?_
    refine pick_f (by rw [e]; rfl) rfl
  | [(f0, c0), (f1, c1)], h1, _, ⟨e, r1, _⟩ =>
    have a0 := okT_at h1 (f := f0) (c := c0) (by simp)
    have a1 := okT_at h1 (f := f1) (c := c1) (by simp)
    simp only at e r1
    refine FnOK.ftree SB0_ok mixed Tryz.func50 someTF (tf2 f0 c0 f1 c1 (fun v => v = .int .i64 0)) ?_
    repeat refine pick_f (decide_eq_false (by omega)) ?_
    refine pick_f (by rw [e]; rfl) rfl
  | [(f0, c0), (f1, c1), (f2, c2)], h1, _, ⟨e, r1, r2, _⟩ =>
    have a0 := okT_at h1 (f := f0) (c := c0) (by simp)
    have a1 := okT_at h1 (f := f1) (c := c1) (by simp)
    have a2 := okT_at h1 (f := f2) (c := c2) (by simp)
    simp only at e r1 r2
    refine FnOK.ftree SB0_ok mixed Tryz.func50 someTF (tf3 f0 c0 f1 c1 f2 c2 (fun v => v = .int .i64 0)) ?_
    repeat refine pick_f (decide_eq_false (by omega)) ?_
    refine pick_f (by rw [e]; rfl) rfl
  | _ :: _ :: _ :: _ :: _, _, h2, _ => simp only [List.length_cons] at h2; omega
theorem maxI (a : Int) : (if a > 0 then a else 0) = max 0 a := by
  split <;> omega
theorem minI (a g : Int) : (if g < a then g else a) = min a g := by
  split <;> omega
theorem term_in {T f c : Int} (hT : 0 ≤ T) (hT2 : T ≤ 1000) (hf : 1 ≤ f) (hc : 0 ≤ c) (hc2 : c ≤ 1500) : 0 ≤ max 0 (T - f + 1) * c ∧ max 0 (T - f + 1) * c ≤ 1500000 := by
  have h1 : 0 ≤ max 0 (T - f + 1) := by omega
  have h2 : max 0 (T - f + 1) ≤ 1000 := by omega
  exact ⟨Int.mul_nonneg h1 hc, Int.mul_le_mul h2 hc2 hc (by omega)⟩
theorem term_eq {T f c : Int} (hT : 0 ≤ T) (hT2 : T ≤ 1000) (hf : 1 ≤ f) (hf2 : f ≤ 1000) (hc : 0 ≤ c) (hc2 : c ≤ 1500) :
    IntKind.i64.wrap ((if IntKind.i64.wrap (IntKind.i64.wrap (T - f) + 1) > 0 then IntKind.i64.wrap (IntKind.i64.wrap (T - f) + 1) else 0) * c) = max 0 (T - f + 1) * c := by
  have := term_in hT hT2 hf hc hc2
  rw [wrap_id (T - f) (by omega) (by omega), wrap_id (T - f + 1) (by omega) (by omega), maxI, wrap_id _ (by omega) (by omega)]
theorem sum_eq {a b : Int} (ha : 0 ≤ a) (ha2 : a ≤ 100000000) (hb : 0 ≤ b) (hb2 : b ≤ 100000000) : IntKind.i64.wrap (a + b) = a + b := wrap_id _ (by omega) (by omega)
theorem quo_eq {a : Int} (ha : 0 ≤ a) (ha2 : a ≤ 1000000000) : IntKind.i64.wrap (a.tdiv 1000) = a.tdiv 1000 := by
  rw [Int.tdiv_eq_ediv_of_nonneg ha]
  exact wrap_id _ (by omega) (by omega)
theorem pr_fn {ts : List Value} (h : okTl ts = true) {free calls : Int} (hf : 0 ≤ free) (hf2 : free ≤ 1000) (hc : 0 ≤ calls) (hc2 : calls ≤ 1000) (key prod : ByteArray) (base lim tri : Int) (ask : Bool) :
    FnOK 0 Tryz.prog 17 ⟨[.agg ⟨[.string key, .string prod, .int .i64 base, .int .i64 free, fz ⟨ts⟩, .int .i64 lim, .int .i64 tri, .bool ask]⟩, .int .i64 calls]⟩ h0 (fun v _ => v = .int .i64 (prV ts free calls)) := by
  obtain ⟨l, ⟨h1, h2, h3⟩, rfl⟩ := okTl_iff.1 h
  have eA : IntKind.i64.wrap (calls - free) = calls - free := wrap_id _ (by omega) (by omega)
  have bA : 0 ≤ max 0 (calls - free) ∧ max 0 (calls - free) ≤ 1000 := by omega
  unfold prV
  rw [unE_map]
  match l, h1, h2, h3 with
  | [], _, _, _ => exact FnOK.ftree SB0_ok mixed Tryz.func17 somePR (prE key prod base free lim tri calls ask (fun v => v = .int .i64 (price [] free calls))) (by show Value.int _ _ = _; congr 1)
  | [(f0, c0)], h1, _, ⟨e, _⟩ =>
    have a0 := okT_at h1 (f := f0) (c := c0) (by simp)
    refine FnOK.ftree SB0_ok mixed Tryz.func17 somePR (pr1 key prod base free lim tri calls ask f0 c0 (fun v => v = .int .i64 (price [(f0, c0)] free calls))) ?_
    have t0 := term_in (f := f0) bA.1 bA.2 a0.2.2.1 a0.1 a0.2.1
    simp only [eA, maxI, minI]
    simp only [← maxI (IntKind.i64.wrap _)]
    rw [term_eq bA.1 bA.2 a0.2.2.1 a0.2.2.2 a0.1 a0.2.1, sum_eq (by omega) (by omega) t0.1 (by omega), quo_eq (by omega) (by omega)]
    unfold price tierSum tierSum toOf
    rw [Int.zero_add, Int.add_zero]
  | [(f0, c0), (f1, c1)], h1, _, ⟨e, r1, _⟩ =>
    have a0 := okT_at h1 (f := f0) (c := c0) (by simp)
    have a1 := okT_at h1 (f := f1) (c := c1) (by simp)
    refine FnOK.ftree SB0_ok mixed Tryz.func17 somePR (pr2 key prod base free lim tri calls ask f0 c0 f1 c1 (fun v => v = .int .i64 (price [(f0, c0), (f1, c1)] free calls))) ?_
    have bB : 0 ≤ min (max 0 (calls - free)) (f1 - 1) ∧ min (max 0 (calls - free)) (f1 - 1) ≤ 1000 := by omega
    have t0 := term_in (f := f0) bB.1 bB.2 a0.2.2.1 a0.1 a0.2.1
    have t1 := term_in (f := f1) bA.1 bA.2 a1.2.2.1 a1.1 a1.2.1
    have w1 : IntKind.i64.wrap (f1 - 1) = f1 - 1 := wrap_id _ (by omega) (by omega)
    simp only [eA, w1, maxI, minI]
    simp only [← maxI (IntKind.i64.wrap _)]
    rw [term_eq bB.1 bB.2 a0.2.2.1 a0.2.2.2 a0.1 a0.2.1, term_eq bA.1 bA.2 a1.2.2.1 a1.2.2.2 a1.1 a1.2.1, sum_eq (by omega) (by omega) t0.1 (by omega), sum_eq (by omega) (by omega) t1.1 (by omega), quo_eq (by omega) (by omega)]
    unfold price tierSum tierSum tierSum toOf
    rw [Int.zero_add, Int.add_zero]
  | [(f0, c0), (f1, c1), (f2, c2)], h1, _, ⟨e, r1, r2, _⟩ =>
    have a0 := okT_at h1 (f := f0) (c := c0) (by simp)
    have a1 := okT_at h1 (f := f1) (c := c1) (by simp)
    have a2 := okT_at h1 (f := f2) (c := c2) (by simp)
    refine FnOK.ftree SB0_ok mixed Tryz.func17 somePR (pr3 key prod base free lim tri calls ask f0 c0 f1 c1 f2 c2 (fun v => v = .int .i64 (price [(f0, c0), (f1, c1), (f2, c2)] free calls))) ?_
    have bB : 0 ≤ min (max 0 (calls - free)) (f1 - 1) ∧ min (max 0 (calls - free)) (f1 - 1) ≤ 1000 := by omega
    have bC : 0 ≤ min (max 0 (calls - free)) (f2 - 1) ∧ min (max 0 (calls - free)) (f2 - 1) ≤ 1000 := by omega
    have t0 := term_in (f := f0) bB.1 bB.2 a0.2.2.1 a0.1 a0.2.1
    have t1 := term_in (f := f1) bC.1 bC.2 a1.2.2.1 a1.1 a1.2.1
    have t2 := term_in (f := f2) bA.1 bA.2 a2.2.2.1 a2.1 a2.2.1
    have w1 : IntKind.i64.wrap (f1 - 1) = f1 - 1 := wrap_id _ (by omega) (by omega)
    have w2 : IntKind.i64.wrap (f2 - 1) = f2 - 1 := wrap_id _ (by omega) (by omega)
    simp only [eA, w1, w2, maxI, minI]
    simp only [← maxI (IntKind.i64.wrap _)]
    rw [term_eq bB.1 bB.2 a0.2.2.1 a0.2.2.2 a0.1 a0.2.1, term_eq bC.1 bC.2 a1.2.2.1 a1.2.2.2 a1.1 a1.2.1, term_eq bA.1 bA.2 a2.2.2.1 a2.2.2.2 a2.1 a2.2.1, sum_eq (by omega) (by omega) t0.1 (by omega), sum_eq (by omega) (by omega) t1.1 (by omega), sum_eq (by omega) (by omega) t2.1 (by omega), quo_eq (by omega) (by omega)]
    unfold price tierSum tierSum tierSum tierSum toOf
    rw [Int.zero_add, Int.add_zero, Int.add_assoc]
  | _ :: _ :: _ :: _ :: _, _, h2, _ => simp only [List.length_cons] at h2; omega
noncomputable def spTf (f : FuncId) (args : Array Value) (h : AH) : Option (Bool × Value × AH) :=
  cond (Nat.beq f 50) (match args with
    | ⟨[.func (.yield 0) ⟨ts⟩ ⟨[]⟩]⟩ => some (okTl ts, .int .i64 0, h)
    | _ => none) none
theorem spTf_ok : SpOK spTf := by
  intro f args h v h' hs
  unfold spTf at hs
  obtain ⟨hf, hs2⟩ := cond_some hs
  clear hs
  have := Nat.eq_of_beq_eq_true hf
  subst this
  split at hs2
  · injection hs2 with hs
    injection hs with hb hs
    injection hs with hv hh
    subst hv hh
    exact ⟨FnOK.pure (tf_fn hb) rfl rfl h, Nat.le_refl _⟩
  · cases hs2
noncomputable def spPr (f : FuncId) (args : Array Value) (h : AH) : Option (Bool × Value × AH) :=
  cond (Nat.beq f 17) (match args with
    | ⟨[.agg ⟨[.string _, .string _, .int .i64 _, .int .i64 free, .func (.yield 0) ⟨ts⟩ ⟨[]⟩, .int .i64 _, .int .i64 _, .bool _]⟩, .int .i64 calls]⟩ => some (okTl ts && decide (0 ≤ free) && decide (free ≤ 1000) && decide (0 ≤ calls) && decide (calls ≤ 1000), .int .i64 (prV ts free calls), h)
    | _ => none) none
theorem spPr_ok : SpOK spPr := by
  intro f args h v h' hs
  unfold spPr at hs
  obtain ⟨hf, hs2⟩ := cond_some hs
  clear hs
  have := Nat.eq_of_beq_eq_true hf
  subst this
  split at hs2
  · injection hs2 with hs
    injection hs with hb hs
    injection hs with hv hh
    subst hv hh
    simp only [Bool.and_eq_true, decide_eq_true_eq] at hb
    obtain ⟨⟨⟨⟨b0, b1⟩, b2⟩, b3⟩, b4⟩ := hb
    exact ⟨FnOK.pure (pr_fn b0 b1 b2 b3 b4 _ _ _ _ _ _) rfl rfl h, Nat.le_refl _⟩
  · cases hs2
/-- The products of a catalog. -/
def prodV (v : Value) : Value := fz ⟨[.agg ⟨[.string ⟨#[109, 97, 112, 115]⟩, v]⟩, .agg ⟨[.string ⟨#[115, 104, 111, 112]⟩, fz ⟨[.string ⟨#[111, 114, 100, 101, 114, 115]⟩]⟩]⟩]⟩
open Classical in
noncomputable def okP (P : Value) : Bool := decide (∃ v, okScs v = true ∧ P = prodV v)
open Classical in
theorem okP_iff {P : Value} : okP P = true ↔ ∃ v, okScs v = true ∧ P = prodV v := by unfold okP; exact decide_eq_true_iff
theorem okP_p1 {P : Value} (h : okP P = true) : p1 P = true := by
  obtain ⟨v, _, rfl⟩ := okP_iff.1 h
  rfl
theorem pf_fn {P : Value} (h : okP P = true) : FnOK 0 Tryz.prog 25 ⟨[P]⟩ h0 (fun v _ => v = .int .i64 0) := by
  obtain ⟨v, hv, rfl⟩ := okP_iff.1 h
  refine FnOK.ftree SB1_ok mixed Tryz.func25 somePF (pf v (fun v => v = .int .i64 0)) (need_mk ?_ (need_mk hv rfl))
  simp only [List.all_cons, List.all_nil, okScs_one hv]
  rfl
noncomputable def spPf (f : FuncId) (args : Array Value) (h : AH) : Option (Bool × Value × AH) :=
  cond (Nat.beq f 25) (match args with
    | ⟨[P]⟩ => some (okP P, .int .i64 0, h)
    | _ => none) none
theorem spPf_ok : SpOK spPf := by
  intro f args h v h' hs
  unfold spPf at hs
  obtain ⟨hf, hs2⟩ := cond_some hs
  clear hs
  have := Nat.eq_of_beq_eq_true hf
  subst this
  split at hs2
  · injection hs2 with hs
    injection hs with hb hs
    injection hs with hv hh
    subst hv hh
    refine ⟨FnOK.pure (pf_fn hb) ?_ rfl h, Nat.le_refl _⟩
    show (p2 _ && true) = true
    rw [p1_p2 (okP_p1 hb)]; rfl
  · cases hs2
def isMaps (s : ByteArray) : Bool := beqN (natsOf ⟨#[109, 97, 112, 115]⟩) (natsOf s)
def isShop (s : ByteArray) : Bool := beqN (natsOf ⟨#[115, 104, 111, 112]⟩) (natsOf s)
theorem isMaps_eq {s : ByteArray} (h : isMaps s = true) : s = ⟨#[109, 97, 112, 115]⟩ := (natsOf_inj (beqN_eq h)).symm
theorem isShop_eq {s : ByteArray} (h : isShop s = true) : s = ⟨#[115, 104, 111, 112]⟩ := (natsOf_inj (beqN_eq h)).symm
def paI (s : ByteArray) : Int := cond (isShop s) 1 0
theorem pa_fn {P W : Value} (h : okP P = true) {k : ByteArray} (hk : (isMaps k || isShop k) = true) : FnOK 0 Tryz.prog 15 ⟨[.agg ⟨[P, W]⟩, .string k]⟩ h0 (fun v _ => v = .tuple ⟨[.int .i64 (paI k), .bool true]⟩) := by
  obtain ⟨v, hv, rfl⟩ := okP_iff.1 h
  rcases Bool.or_eq_true_iff.1 hk with q | q
  · have := isMaps_eq q
    subst this
    exact FnOK.ftree SB1_ok mixed Tryz.func15 somePA (pamapsE v W (fun v => v = .tuple ⟨[.int .i64 0, .bool true]⟩)) rfl
  · have := isShop_eq q
    subst this
    exact FnOK.ftree SB1_ok mixed Tryz.func15 somePA (pashopE v W (fun v => v = .tuple ⟨[.int .i64 1, .bool true]⟩)) rfl
noncomputable def spPa (f : FuncId) (args : Array Value) (h : AH) : Option (Bool × Value × AH) :=
  cond (Nat.beq f 15) (match args with
    | ⟨[.agg ⟨[P, W]⟩, .string k]⟩ => some (okP P && p1 W && (isMaps k || isShop k), .tuple ⟨[.int .i64 (paI k), .bool true]⟩, h)
    | _ => none) none
theorem spPa_ok : SpOK spPa := by
  intro f args h v h' hs
  unfold spPa at hs
  obtain ⟨hf, hs2⟩ := cond_some hs
  clear hs
  have := Nat.eq_of_beq_eq_true hf
  subst this
  split at hs2
  · injection hs2 with hs
    injection hs with hb hs
    injection hs with hv hh
    subst hv hh
    rw [Bool.and_eq_true, Bool.and_eq_true] at hb
    refine ⟨FnOK.pure (pa_fn hb.1.1 hb.2) ?_ rfl h, Nat.le_refl _⟩
    show (List.all [_, _] p1 && true) = true
    simp only [List.all_cons, List.all_nil, okP_p1 hb.1.1, hb.1.2]
    rfl
  · cases hs2
end Go.Proofs.YtfepnpffbhjakaaGreatDoor
