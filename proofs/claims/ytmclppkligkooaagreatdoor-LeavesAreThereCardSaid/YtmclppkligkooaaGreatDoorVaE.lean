/-
  Values: what is wrong with one: its names.
-/
import Derived.Test.YtmclppkligkooaaGreatDoorVaD
namespace Go.Proofs.YtmclppkligkooaaGreatDoor
open Go.Ev Go.RowKit

noncomputable def spNf (x : Value) (ok : Bool) (f : FuncId) (args : Array Value) (h : AH) : Option (Bool × Value × AH) :=
  cond (Nat.beq f 57) (match args with
    | ⟨[y]⟩ => some (eqV y x && ok, .int .i64 0, h)
    | _ => none) none
noncomputable def SNf (x : Value) (ok : Bool) : SC := ⟨idn, spNf x ok, true, true⟩
def fnH (k : Int) (f : Bool) (n : Int) (s : ByteArray) (xs ys : List Value) : AH := fvH [.int .i64 k, .bool f, .int .i64 n, .string s, fz ⟨xs⟩, fz ⟨ys⟩]
def fnO (k : Int) (f : Bool) (n : Int) (s : ByteArray) (xs ys : List Value) : Obj := bxO [.int .i64 k, .bool f, .int .i64 n, .string s, fz ⟨xs⟩, fz ⟨ys⟩]
def elS (xs : List Value) (i : Int) : ByteArray := toStr ((elV xs i).cells.toList.getD 0 undef)
def leS (a b : ByteArray) : Bool := Op.bytesLess a.toList b.toList || a.toList == b.toList
theorem fvN (x : Value) (ok : Bool) (k m n i : Int) (f : Bool) (s : ByteArray) (xs ys : List Value) (B : List Value → AH → Prop) (Q : AExit → List Value → AH → Prop) :
    once 0 Tryz.prog (SNf x ok) [] noHooks 600 90 [1, 35, 36, 37] [0] [1, 2] [0] (oneLoop (codeOf Tryz.f30) 12) [p0V, fz ⟨ys⟩, .int .i64 n, .int .i64 i] (fnH k f m s xs ys) B Q =
      bif decide (i < n) then bif decide (0 ≤ i) && decide (i < ((Array.mk ys).size : Int)) && Nat.beq (e7 (elV ys i)).cells.size 7 then elV ys i = e7 (elV ys i) ∧
        (bif eqV (.string (elS ys i)) x && ok then
          bif decide (i > 0) then
            bif decide (0 ≤ IntKind.i64.wrap (i - 1)) && decide (IntKind.i64.wrap (i - 1) < ((Array.mk ys).size : Int)) && Nat.beq (e7 (elV ys (IntKind.i64.wrap (i - 1)))).cells.size 7 then elV ys (IntKind.i64.wrap (i - 1)) = e7 (elV ys (IntKind.i64.wrap (i - 1))) ∧
              (bif (bif true then leS (elS ys i) (elS ys (IntKind.i64.wrap (i - 1))) else false) then NoNames (fnO k f m s xs ys) ∧ Q .ret [p0V, .int .i64 7] (fnH k f m s xs ys)
                else NoNames (fnO k f m s xs ys) ∧ B [p0V, fz ⟨ys⟩, .int .i64 n, .int .i64 (IntKind.i64.wrap (i + 1))] (fnH k f m s xs ys)) else False
          else NoNames (fnO k f m s xs ys) ∧ B [p0V, fz ⟨ys⟩, .int .i64 n, .int .i64 (IntKind.i64.wrap (i + 1))] (fnH k f m s xs ys) else False) else False
      else NoNames (fnO k f m s xs ys) ∧ Q (.exit 1) [p0V, anyV] (fnH k f m s xs ys) := by kernel_rfl
def Nf (x : Value) : Prop := FnOK 0 Tryz.prog 57 ⟨[x]⟩ h0 (fun v _ => v = .int .i64 0) ∧ p2 x = true
theorem spNf_ok {x : Value} {ok : Bool} (hF : ok = true → Nf x) : SpOK (spNf x ok) := by
  intro f args h v h' hs
  unfold spNf at hs
  obtain ⟨hf, hs2⟩ := cond_some hs
  clear hs
  have := Nat.eq_of_beq_eq_true hf
  subst this
  split at hs2
  · rename_i y
    injection hs2 with hs
    injection hs with hb hs
    injection hs with hv hh
    subst hv hh
    rw [Bool.and_eq_true] at hb
    have hy := eqV_eq hb.1
    subst hy
    obtain ⟨q1, q2⟩ := hF hb.2
    exact ⟨FnOK.pure q1 (by show (p2 _ && true) = true; rw [q2]; rfl) rfl h, Nat.le_refl _⟩
  · cases hs2
theorem spNf_none : SpOK (spNf undef false) := spNf_ok fun h => Bool.noConfusion h
theorem fvN_loop (k m : Int) (f : Bool) (s : ByteArray) (xs ys : List Value) (K : AExit → List Value → AH → Prop) (hl : ys.length ≤ 5000) (hN : ∀ i : Nat, i < ys.length → elV ys (i : Int) = e7 (elV ys (i : Int)) ∧ Nf (.string (elS ys (i : Int)))) (ho : ∀ i : Nat, i + 1 < ys.length → leS (elS ys ((i + 1 : Nat) : Int)) (elS ys (i : Int)) = false)
    (hK : K (.exit 1) [p0V, anyV] (fnH k f m s xs ys)) : ∀ (r i : Nat), i + r = ys.length →
    iterE 0 Tryz.prog 90 [1, 35, 36, 37] [0] [1, 2] [0] (oneLoop (codeOf Tryz.f30) 12) (r + 1) [p0V, fz ⟨ys⟩, .int .i64 (ys.length : Int), .int .i64 (i : Int)] (fnH k f m s xs ys) K
  | 0, i, h2 => ⟨SNf undef false, [], noHooks, 600, spNf_none.cfg, loops_none _ _ _ _, (fvN undef false k m _ _ f s xs ys _ K).mpr (pick_f (decide_eq_false (by omega)) ⟨nnX _ _ _ _ _ _, hK⟩)⟩
  | r + 1, i, h2 => by
    have hi : i < ys.length := by omega
    obtain ⟨g1, g2⟩ := hN i hi
    have next := fvN_loop k m f s xs ys K hl hN ho hK r (i + 1) (by omega)
    refine ⟨SNf (.string (elS ys (i : Int))) true, [], noHooks, 600, (spNf_ok fun _ => g2).cfg, loops_none _ _ _ _, (fvN _ true k m _ _ f s xs ys _ K).mpr ?_⟩
    refine pick_t (decide_eq_true (by omega)) (need_mk ?_ ⟨g1, need_mk (by rw [eqV_self]; rfl) ?_⟩)
    · simp only [Bool.and_eq_true, decide_eq_true_eq]
      exact ⟨⟨by omega, by simp; omega⟩, rfl⟩
    · match i, hi, next with
      | 0, _, next => exact pick_f (decide_eq_false (by omega)) ⟨nnX _ _ _ _ _ _, by rw [wrapS (by omega)]; exact next⟩
      | j + 1, hi, next =>
        have w : IntKind.i64.wrap (((j + 1 : Nat) : Int) - 1) = (j : Int) := by rw [wrap_id _ (by omega) (by omega)]; omega
        rw [w]
        refine pick_t (decide_eq_true (by omega)) (need_mk ?_ ⟨(hN j (by omega)).1, pick_f (ho j hi) ⟨nnX _ _ _ _ _ _, by rw [wrapS (by omega)]; exact next⟩⟩)
        simp only [Bool.and_eq_true, decide_eq_true_eq]
        exact ⟨⟨by omega, by simp; omega⟩, rfl⟩
end Go.Proofs.YtmclppkligkooaaGreatDoor
