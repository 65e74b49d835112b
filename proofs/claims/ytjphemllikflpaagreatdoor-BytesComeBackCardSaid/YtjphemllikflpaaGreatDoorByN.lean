/-
  Responses: right ones, as they are drawn.
-/
import Derived.Test.YtjphemllikflpaaGreatDoorByR
namespace Go.Proofs.YtjphemllikflpaaGreatDoor
open Go.Ev Go.RowKit RecLaw PathLaw QueryLaw

structure Rs where
  st : Int
  hs : List (Bs × Bs)
  bd : Bs
def zeroS : Rs := ⟨0, [], []⟩
def sV (st : Int) (hv : Value) (b : ByteArray) : Value := .agg ⟨[.int .i64 st, hv, .string b]⟩
def rsV (r : Rs) : Value := sV r.st (hdV r.hs) (bl r.bd)
noncomputable def rsT (e : Bool) (r : Rs) : Value := sV r.st (hdT e r.hs) (bl r.bd)
theorem rsT_eq (r : Rs) : rsT r.hs.isEmpty r = rsV r := by unfold rsT; rw [hdT_eq]; rfl
def stI : List Int := [200, 204, 304, 404, 500, 503]
def bsS : List Bs := [[], [104, 101, 108, 108, 111], [120]]
structure RtS (r : Rs) : Prop where
  st : r.st ∈ stI
  n : r.hs.length ≤ 3
  hs : ∀ h ∈ r.hs, h.1 ∈ nmS ∧ h.2 ∈ vaS
  bd : r.bd ∈ bsS
def spL : List Value := [.int .i64 200, .int .i64 200, .int .i64 200, .int .i64 204, .int .i64 304, .int .i64 404, .int .i64 500, .int .i64 503]
def bpL : List Value := [.string ⟨#[]⟩, .string ⟨#[104, 101, 108, 108, 111]⟩, .string ⟨#[120]⟩]
def bpQ (s : ByteArray) : Prop := s.data.toList ∈ bsS
theorem bp_all : ∀ v ∈ bpL, bpQ (toStr v) := by
  intro v hv
  simp only [bpL, List.mem_cons, List.not_mem_nil, or_false] at hv
  rcases hv with rfl | rfl | rfl
  · show _ ∈ bsS; decide
  · show _ ∈ bsS; decide
  · show _ ∈ bsS; decide
theorem sp_all : ∀ v ∈ spL, toInt v ∈ stI := by
  intro v hv
  simp only [spL, List.mem_cons, List.not_mem_nil, or_false] at hv
  rcases hv with rfl | rfl | rfl | rfl | rfl | rfl | rfl | rfl
  · show _ ∈ stI; decide
  · show _ ∈ stI; decide
  · show _ ∈ stI; decide
  · show _ ∈ stI; decide
  · show _ ∈ stI; decide
  · show _ ∈ stI; decide
  · show _ ∈ stI; decide
  · show _ ∈ stI; decide
theorem gI_in {l : List Value} {P : Int → Prop} {m : Int} (hl : (l.length : Int) = m) (h : ∀ v ∈ l, P (toInt v)) {r : Int} (h0 : 0 ≤ r) (h1 : r < m) : P (gI l r) := by
  unfold gI
  have hi : 0 + r.toNat * 1 < l.length := by omega
  rw [List.getD_eq_getElem?_getD, List.getElem?_eq_getElem hi]
  exact h _ (List.getElem_mem hi)
noncomputable def SRp (e : Bool) : SC := ⟨idn, spOr spRg (spOr (R3.spGH 31 9 500 e) (spNext [])), true, true⟩
theorem SRp_ok (e : Bool) : (SRp e).cfg.OK Tryz.prog := (spRg_ok.or ((R3.spGH_ok R3.rh_ex e).or (spNext_ok []))).cfg
noncomputable def rpD (xs : Array Value) (e : Bool) (d : Int) (b : ByteArray) : Value := sV (gI spL (nextR xs d 8)) (hdT e (R3.ghC 31 9 xs (d + 1)).1) b
noncomputable def gh3 (xs : Array Value) (e : Bool) (d : Int) (X : Prop) : Prop := bif decide (0 ≤ d) && decide (d ≤ 500) && allInts xs && (cond e (R3.ghC 31 9 xs d).1.isEmpty (!(R3.ghC 31 9 xs d).1.isEmpty)) then X else False
noncomputable def rpT (xs : Array Value) (e : Bool) (d : Int) (Q : Value → Option Obj → Prop) : Prop :=
  dr xs d (rg (nextR xs d 8) 8 8 (gh3 xs e (d + 1) (dr xs (R3.ghC 31 9 xs (d + 1)).2 (rg (nextR xs (R3.ghC 31 9 xs (d + 1)).2 3) 3 3
    (Q (rpD xs e d (gS bpL (nextR xs (R3.ghC 31 9 xs (d + 1)).2 3))) (some (strm xs ((R3.ghC 31 9 xs (d + 1)).2 + 1))))))))
theorem rp_t (xs : Array Value) (d : Int) (Q : Value → Option Obj → Prop) : ffn Tryz.prog (SRp true) [] 3000 [] Tryz.f10 [.pointer (some ⟨0, 0, none⟩)] (Ev.h1 (strm xs d)) (fun v h => Q v (h.get 0)) = rpT xs true d Q := by kernel_rfl
theorem rp_f (xs : Array Value) (d : Int) (Q : Value → Option Obj → Prop) : ffn Tryz.prog (SRp false) [] 3000 [] Tryz.f10 [.pointer (some ⟨0, 0, none⟩)] (Ev.h1 (strm xs d)) (fun v h => Q v (h.get 0)) = rpT xs false d Q := by kernel_rfl
theorem someRRP : Tryz.f10.body.isSome = true := by kernel_rfl
theorem gh3_mk {zs : List Int} {e : Bool} {d : Int} (h0 : 0 ≤ d) (h1 : d ≤ 500) (he : (R3.ghC 31 9 (intsV zs) d).1.isEmpty = e) {X : Prop} (hX : X) : gh3 (intsV zs) e d X := by
  refine need_mk ?_ hX
  rw [allInts_intsV, he]
  cases e <;> simp [h0, h1]
def RpOK (w : Int) (xs : Array Value) (d : Int) (r : Rs × Int) : Prop := RtS r.1 ∧ 0 ≤ r.2 ∧ r.2 ≤ d + w ∧
  FnOK 1 Tryz.prog 10 ⟨[.pointer (some ⟨0, 0, none⟩)]⟩ (Ev.h1 (strm xs d)) (fun u g => u = rsV r.1 ∧ g.get 0 = some (strm xs r.2))
open Classical in
noncomputable def rpC (w : Int) (xs : Array Value) (d : Int) : Rs × Int := if h : ∃ r, RpOK w xs d r then h.choose else (zeroS, 0)
def RpEx (w m : Int) : Prop := ∀ (zs : List Int) (d : Int), 0 ≤ d → d ≤ m → ∃ r, RpOK w (intsV zs) d r
theorem rpC_ok {w m : Int} (hx : RpEx w m) (zs : List Int) {d : Int} (h0 : 0 ≤ d) (h1 : d ≤ m) : RpOK w (intsV zs) d (rpC w (intsV zs) d) := by
  have h := hx zs d h0 h1
  unfold rpC
  rw [dif_pos h]
  exact h.choose_spec
theorem sV_eq {st : Int} {L : List (Bs × Bs)} {hd : Value} {b : ByteArray} (h : hd = hdV L) : sV st hd b = rsV ⟨st, L, b.data.toList⟩ := by
  subst h
  unfold rsV
  simp only [bl_self]
theorem rpT_ex (zs : List Int) {d : Int} (h0 : 0 ≤ d) (h1 : d ≤ 200) {e : Bool} (he : (R3.ghC 31 9 (intsV zs) (d + 1)).1.isEmpty = e) : ∃ (r : Rs) (x : Int), (RtS r ∧ 0 ≤ x ∧ x ≤ d + 20) ∧ ∀ Q : Value → Option Obj → Prop, Q (rsV r) (some (strm (intsV zs) x)) → rpT (intsV zs) e d Q := by
  obtain ⟨g1, g2, g3, _⟩ := R3.ghC_ok R3.rh_ex zs (d := d + 1) (by omega) (by omega)
  have hd : hdT e (R3.ghC 31 9 (intsV zs) (d + 1)).1 = hdV (R3.ghC 31 9 (intsV zs) (d + 1)).1 := by rw [← he]; exact hdT_eq _
  have b0 := (nextR_spec zs 8 d h0 (by omega) (by omega) (by omega)).1
  have b1 := (nextR_spec zs 3 (R3.ghC 31 9 (intsV zs) (d + 1)).2 g2 (by omega) (by omega) (by omega)).1
  have q0 := gI_in (P := fun x => x ∈ stI) (m := 8) rfl sp_all b0.1 b0.2
  have q1 := gS_in (m := 3) rfl bp_all b1.1 b1.2
  have eb : rpD (intsV zs) e d (gS bpL (nextR (intsV zs) (R3.ghC 31 9 (intsV zs) (d + 1)).2 3)) = rsV ⟨gI spL (nextR (intsV zs) d 8), (R3.ghC 31 9 (intsV zs) (d + 1)).1, (gS bpL (nextR (intsV zs) (R3.ghC 31 9 (intsV zs) (d + 1)).2 3)).data.toList⟩ := sV_eq hd
  refine ⟨⟨gI spL (nextR (intsV zs) d 8), (R3.ghC 31 9 (intsV zs) (d + 1)).1, (gS bpL (nextR (intsV zs) (R3.ghC 31 9 (intsV zs) (d + 1)).2 3)).data.toList⟩, _, ⟨⟨q0, g1.1, g1.2, q1⟩, ?_, ?_⟩, fun Q hQ => dr_mk h0 (by omega) (rg_mk h0 (by omega) rfl (by decide) (gh3_mk (by omega) (by omega) he (dr_mk g2 (by omega) (rg_mk g2 (by omega) rfl (by decide) (eb.symm ▸ hQ)))))⟩ <;> omega
theorem rp_ex : RpEx 20 200 := by
  intro zs d h0 h1
  cases he : (R3.ghC 31 9 (intsV zs) (d + 1)).1.isEmpty with
  | true =>
    obtain ⟨r, x, ⟨g1, g2, g3⟩, g4⟩ := rpT_ex zs h0 h1 he
    exact ⟨(r, x), g1, g2, g3, FnOK.ftree (SRp_ok true) mixed Tryz.func10 someRRP (rp_t (intsV zs) d (fun u o => u = rsV r ∧ o = some (strm (intsV zs) x))) (g4 _ ⟨rfl, rfl⟩)⟩
  | false =>
    obtain ⟨r, x, ⟨g1, g2, g3⟩, g4⟩ := rpT_ex zs h0 h1 he
    exact ⟨(r, x), g1, g2, g3, FnOK.ftree (SRp_ok false) mixed Tryz.func10 someRRP (rp_f (intsV zs) d (fun u o => u = rsV r ∧ o = some (strm (intsV zs) x))) (g4 _ ⟨rfl, rfl⟩)⟩
theorem p2_rs (r : Rs) : p2 (rsV r) = true := by
  unfold rsV
  cases r.hs <;> rfl
theorem p3_rs (r : Rs) : p3 (rsV r) = true := by
  unfold rsV
  cases r.hs <;> rfl
noncomputable def spRP (w m : Int) (e : Bool) (f : FuncId) (args : Array Value) (h : AH) : Option (Bool × Value × AH) :=
  cond (Nat.beq f 10) (match args with
    | ⟨[.pointer (some ⟨b, 0, none⟩)]⟩ => match h.get b with
      | some (.cells ⟨[.func (.yield 0) xs ⟨[]⟩, .int .i64 at_]⟩ t (0, 0)) =>
        some (Nat.beq t 25 && decide (0 ≤ at_) && decide (at_ ≤ m) && allInts xs && (cond e (rpC w xs at_).1.hs.isEmpty (!(rpC w xs at_).1.hs.isEmpty)), rsT e (rpC w xs at_).1, h.set b (.cells ⟨[fz xs, .int .i64 (rpC w xs at_).2]⟩ 25 (0, 0)))
      | _ => none
    | _ => none) none
theorem rp_call {w m : Int} (hx : RpEx w m) {zs : List Int} {at_ : Int} (h0 : 0 ≤ at_) (h1 : at_ ≤ m) {h : AH} {b : Nat} (hg : h.get b = some (strm (intsV zs) at_)) :
    CallOK Tryz.prog 10 ⟨[.pointer (some ⟨b, 0, none⟩)]⟩ h (rsV (rpC w (intsV zs) at_).1) (h.set b (strm (intsV zs) (rpC w (intsV zs) at_).2)) := by
  obtain ⟨_, _, _, hF⟩ := rpC_ok hx zs h0 h1
  exact FnOK.ref (cs := ⟨[fz (intsV zs), .int .i64 at_]⟩) (cs' := ⟨[fz (intsV zs), .int .i64 (rpC w (intsV zs) at_).2]⟩) (args := []) hF rfl (by simp [p1, fz]) (by simp [p1, fz]) (p3_rs _) hg
theorem spRP_ok {w m : Int} (hx : RpEx w m) (e : Bool) : SpOK (spRP w m e) := by
  intro f args h v h' hs
  unfold spRP at hs
  obtain ⟨hf, hs2⟩ := cond_some hs
  clear hs
  have := Nat.eq_of_beq_eq_true hf
  subst this
  split at hs2
  · rename_i b
    split at hs2
    · rename_i xs at_ t hg
      injection hs2 with hs
      injection hs with hb hs
      injection hs with hv hh
      subst hv hh
      simp only [Bool.and_eq_true, decide_eq_true_eq] at hb
      obtain ⟨⟨⟨⟨b1, b2⟩, b3⟩, b4⟩, b5⟩ := hb
      have b1 := Nat.eq_of_beq_eq_true b1
      subst b1
      obtain ⟨zs, rfl⟩ := intsV_of_all b4
      have he : rsT e (rpC w (intsV zs) at_).1 = rsV (rpC w (intsV zs) at_).1 := by
        rw [← rsT_eq]
        cases e with
        | true => rw [show (rpC w (intsV zs) at_).1.hs.isEmpty = true from b5]
        | false =>
          have b5 : (!(rpC w (intsV zs) at_).1.hs.isEmpty) = true := b5
          rw [Bool.not_eq_true'] at b5
          rw [b5]
      rw [he]
      exact ⟨rp_call hx b2 b3 hg, Nat.le_refl _⟩
    · cases hs2
  · cases hs2
end Go.Proofs.YtjphemllikflpaaGreatDoor
