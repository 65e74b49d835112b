/-
  Templates: the specifications of the law.
-/
import Derived.Test.YtklcapmmogediaaGreatDoorTpG
namespace Go.Proofs.YtklcapmmogediaaGreatDoor
open Go.Ev Go.RowKit TplLaw

structure TF where
  ps : Array Value → List Value
  pe : Array Value → Int
  tt : List Value → ByteArray
  te : List Value → Int
  pr : ByteArray → List Value
noncomputable def spTpf (F : TF) (f : FuncId) (args : Array Value) (h : AH) : Option (Bool × Value × AH) :=
  cond (Nat.beq f 5) (match args with
    | ⟨[.pointer (some ⟨b, 0, none⟩)]⟩ => match h.get b with
      | some (.cells ⟨[.func (.yield 0) xs ⟨[]⟩, .int .i64 at_]⟩ t (0, 0)) =>
        some (Nat.beq t 25 && decide (at_ = 0) && allInts xs, fz ⟨F.ps xs⟩, h.set b (.cells ⟨[fz xs, .int .i64 (F.pe xs)]⟩ 25 (0, 0)))
      | _ => none
    | _ => none) none
noncomputable def spTtf (F : TF) (f : FuncId) (args : Array Value) (h : AH) : Option (Bool × Value × AH) :=
  cond (Nat.beq f 4) (match args with
    | ⟨[.func (.yield 0) ⟨vs⟩ ⟨[]⟩]⟩ => some (okV vs, .tuple ⟨[.string (F.tt vs), .int .i64 (F.te vs)]⟩, h)
    | _ => none) none
noncomputable def spPtf (F : TF) (f : FuncId) (args : Array Value) (h : AH) : Option (Bool × Value × AH) :=
  cond (Nat.beq f 6) (match args with
    | ⟨[.string t]⟩ => some (okTx t, .tuple ⟨[fz ⟨F.pr t⟩, .int .i64 0]⟩, h)
    | _ => none) none
noncomputable def SLf (F : TF) : SC := ⟨idn, spOr spReady (spOr (spTpf F) (spOr (spTtf F) (spPtf F))), true, true⟩
noncomputable def F0 : TF where
  ps := fun xs => (tpC xs).1.map ptV
  pe := fun xs => (tpC xs).2
  tt := fun vs => (ttC vs).1
  te := fun vs => (ttC vs).2
  pr := fun t => (prC t).map ptV
theorem spTpf_ok : SpOK (spTpf F0) := by
  intro f args h v h' hs
  unfold spTpf at hs
  obtain ⟨hf, hs2⟩ := cond_some hs
  clear hs
  have := Nat.eq_of_beq_eq_true hf
  subst this
  split at hs2
  · split at hs2
    · rename_i b _ xs at_ t hg
      injection hs2 with hs
      injection hs with hb hs
      injection hs with hv hh
      subst hv hh
      simp only [Bool.and_eq_true, decide_eq_true_eq] at hb
      obtain ⟨⟨b1, rfl⟩, b3⟩ := hb
      have b1 := Nat.eq_of_beq_eq_true b1
      subst b1
      obtain ⟨zs, rfl⟩ := intsV_of_all b3
      refine ⟨?_, Nat.le_refl _⟩
      exact FnOK.ref (cs := ⟨[fz (intsV zs), .int .i64 0]⟩) (cs' := ⟨[fz (intsV zs), .int .i64 (tpC (intsV zs)).2]⟩) (args := []) (tpC_ok zs).2.2.2 rfl (by simp [p1, fz]) (by simp [p1, fz]) rfl hg
    · cases hs2
  · cases hs2
theorem spTtf_ok : SpOK (spTtf F0) := spTt_ok
theorem spPtf_ok : SpOK (spPtf F0) := spPt_ok
theorem SLf_ok : (SLf F0).cfg.OK Tryz.prog := (spReady_ok.or (spTpf_ok.or (spTtf_ok.or spPtf_ok))).cfg
theorem someLW : Tryz.f3.body.isSome = true := by kernel_rfl
theorem lw (F : TF) (xs : Array Value) (Q : Value → Prop) : ffn Tryz.prog (SLf F) [] 600 [] Tryz.f3 [fz xs] h0 (fun v _ => Q v) =
    bif allInts xs then bif okV (F.ps xs) then bif F.te (F.ps xs) == 0 then bif okTx (F.tt (F.ps xs)) then bif okV (F.pr (F.tt (F.ps xs))) then
      bif F.te (F.pr (F.tt (F.ps xs))) == 0 then bif (F.tt (F.pr (F.tt (F.ps xs)))).toList == (F.tt (F.ps xs)).toList then Q (.bool true) else Q (.bool false) else Q (.bool false)
      else False else False else Q (.bool true) else False else False := by kernel_rfl
end Go.Proofs.YtklcapmmogediaaGreatDoor
