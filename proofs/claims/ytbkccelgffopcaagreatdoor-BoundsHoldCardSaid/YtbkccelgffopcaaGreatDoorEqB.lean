/-
  'slices.Equal' of strings where the second slice is fresh and has one string.
-/
import Derived.Test.YtbkccelgffopcaaGreatDoorEqual
namespace Go.Proofs.YtbkccelgffopcaaGreatDoor
open Go.Ev Go.RowKit
theorem eqb (xs : List Value) (y : ByteArray) (t : TypeId) (fr : Nat × Nat) (Q : Value → Option Obj → Prop) : (ffn Tryz.prog SQ [] 200 [] Tryz.f9 [fz ⟨xs⟩, .slice (some ⟨0, 0, none⟩) 1 1] ⟨1, 1, [(0, .cells ⟨[.string y]⟩ t fr)]⟩ (fun v h => Q v (h.get 0))) =
    bif ((Array.mk xs).size : Int) != 1 then Q (Value.bool false) (some (Obj.cells { toList := [Value.string y] } t fr))
    else
      bif decide (0 < ((Array.mk xs).size : Int)) then
        bif decide (0 < ((Array.mk xs).size : Int)) && true then
          (Array.mk xs).toList.getD 0 (Value.tuple { toList := [] }) =
              Value.string (toStr ((Array.mk xs).toList.getD 0 (Value.tuple { toList := [] }))) ∧
            bif !(toStr ((Array.mk xs).toList.getD 0 (Value.tuple { toList := [] }))).toList == y.toList then
              Q (Value.bool false) (some (Obj.cells { toList := [Value.string y] } t fr))
            else
              bif decide (1 < ((Array.mk xs).size : Int)) then
                bif decide (1 < ((Array.mk xs).size : Int)) && true then
                  (Array.mk xs).toList.getD 1 (Value.tuple { toList := [] }) =
                      Value.string (toStr ((Array.mk xs).toList.getD 1 (Value.tuple { toList := [] }))) ∧
                    False
                else False
              else Q (Value.bool true) (some (Obj.cells { toList := [Value.string y] } t fr))
        else False
      else Q (Value.bool true) (some (Obj.cells { toList := [Value.string y] } t fr)) := by kernel_rfl

theorem eqb_fn (xs : List Value) (y : ByteArray) (t : TypeId) (fr : Nat × Nat) (hx : xs.all isStr = true) :
    FnOK 1 Tryz.prog 9 ⟨[fz ⟨xs⟩, .slice (some ⟨0, 0, none⟩) 1 1]⟩ ⟨1, 1, [(0, .cells ⟨[.string y]⟩ t fr)]⟩ (fun u g => u = .bool (eqS xs [.string y]) ∧ g.get 0 = some (.cells ⟨[.string y]⟩ t fr)) := by
  refine FnOK.ftree (p := 1) SQ_ok mixed Tryz.func9 some9 (eqb xs y t fr (fun u o => u = .bool (eqS xs [.string y]) ∧ o = some (.cells ⟨[.string y]⟩ t fr))) ?_
  match xs, hx with
  | [], _ => exact ⟨rfl, rfl⟩
  | [.string s], _ =>
    have e : eqS [.string s] [.string y] = (s.toList == y.toList) := by
      simp only [eqS, toStr, Bool.and_true]
    rw [e]
    refine pick_f rfl (pick_t rfl (need_mk rfl ⟨rfl, ?_⟩))
    show cond (s.toList != y.toList) _ _
    unfold bne
    cases s.toList == y.toList <;> exact ⟨rfl, rfl⟩
  | a :: b :: l, _ =>
    refine pick_t ?_ ⟨?_, rfl⟩
    · show (((l.length + 1 + 1 : Nat) : Int) != 1) = true
      simp; omega
    · simp [eqS]

theorem look1 {o q : Obj} {i : Nat} (h : Ev.look i [(0, o)] = some q) : i = 0 ∧ q = o := by
  unfold Ev.look at h
  cases hb : Nat.beq 0 i with
  | true => rw [hb] at h; injection h with h; exact ⟨(Nat.eq_of_beq_eq_true hb).symm, h.symm⟩
  | false => rw [hb] at h; cases h
def spEqB (f : FuncId) (args : Array Value) (h : AH) : Option (Bool × Value × AH) :=
  cond (Nat.beq f 9) (match args with
    | ⟨[.func (.yield 0) ⟨xs⟩ ⟨[]⟩, .slice (some ⟨b, 0, none⟩) 1 1]⟩ => match h.get b with
      | some (.cells ⟨[.string y]⟩ _ _) => some (xs.all isStr, .bool (eqS xs [.string y]), h)
      | _ => none
    | _ => none) none
theorem spEqB_ok : SpOK spEqB := by
  intro f args h v h' hs
  unfold spEqB at hs
  obtain ⟨hf, hs2⟩ := cond_some hs
  clear hs
  have hs := hs2
  clear hs2
  have := Nat.eq_of_beq_eq_true hf
  subst this
  split at hs
  · rename_i xs b
    split at hs
    · rename_i y t fr hg
      injection hs with hs
      injection hs with hb hs
      injection hs with hv hh
      subst hv hh
      refine ⟨?_, Nat.le_refl _⟩
      refine FnOK.reads (r := [(b, 0)]) (bl := [(0, .cells ⟨[.string y]⟩ t fr)]) (small := [fz ⟨xs⟩, .slice (some ⟨0, 0, none⟩) 1 1]) ?_ ?_ ?_ ?_ ((eqb_fn xs y t fr hb).mono ?_) rfl
      · simp [renOk, renB, invB, eqO]
      · simp [ren2s, ren2, ren1, renB, fz, p1]
      · intro i o hi
        obtain ⟨rfl, rfl⟩ := look1 hi
        exact ⟨b, by simp, hg⟩
      · intro i o hi
        obtain ⟨rfl, rfl⟩ := look1 hi
        exact ⟨_, _, _, rfl, by simp [p1]⟩
      · rintro u g ⟨h1, h2⟩
        refine ⟨h1, fun i o hi => ?_⟩
        obtain ⟨rfl, rfl⟩ := look1 hi
        exact h2
    · cases hs
  · cases hs
end Go.Proofs.YtbkccelgffopcaaGreatDoor
