/-
  Limits: Replay, round by round.
-/
import Derived.Test.YtbigicdojndnjaaGreatDoorLmB
namespace Go.Ev
open Go.RowKit
/-- The cells of the block that a slot points to, told. -/
noncomputable def tellB (s : Nat) (cs : List Value) : LS := fun t h K => match t.get s with
  | .pointer (some ⟨b, 0, none⟩) => match h.get b with
    | some (.cells ⟨ds⟩ ty (0, 0)) => ds = cs ∧ K .normal t (h.set b (.cells ⟨cs⟩ ty (0, 0)))
    | _ => False
  | _ => False
theorem tellB_ok (p : Nat) (P : Program) (m s : Nat) (cs : List Value) : GSpec p P m (tellB s cs) := by
  intro t τ h K hr hs
  unfold tellB at hs
  split at hs
  · split at hs
    · rename_i b _ ds ty hg
      obtain ⟨rfl, hs⟩ := hs
      exact ⟨t, τ, _, Weak.mark 0 0 hg, hr, hs⟩
    · exact hs.elim
  · exact hs.elim
end Go.Ev
namespace Go.Proofs.YtbigicdojndnjaaGreatDoor
open Go.Ev Go.RowKit LimLaw

noncomputable def SRp : SC := ⟨idn, spOr spCl (spOr spCa spAf), true, true⟩
theorem SRp_ok : SRp.cfg.OK Tryz.prog := (spCl_ok.or (spCa_ok.or spAf_ok)).cfg
abbrev Vd := Bool × ByteArray × Int
def vdC (v : Vd) : List Value := [.bool v.1, .string v.2.1, .int .i64 v.2.2]
def vdV (v : Vd) : Value := .agg ⟨vdC v⟩
def okVd : Vd := (true, ⟨#[]⟩, 0)
def noVd (w : Int) : Vd := (false, keyB, w)
def rpV (xs : List Value) (out : Value) (n i : Int) : List Value := [.pointer (some ⟨1, 0, none⟩), out, fz ⟨xs⟩, .int .i64 n, .int .i64 i]
def rpX (lc : List Value) : AH := ⟨1, 1, [(0, .cells ⟨lc⟩ 46 (0, 0))]⟩
def rpXo (lc oc : List Value) : AH := ⟨2, 2, [(0, .cells ⟨lc⟩ 46 (0, 0)), (1, .cells ⟨oc⟩ 41 (0, 0))]⟩
def mt0 (lc : List Value) (now : Int) : AH := ⟨4, 4, [(0, .cells ⟨lc⟩ 46 (0, 0)), (1, .cells ⟨[.slice (some ⟨2, 0, none⟩) 1 1, .int .i64 now, .map (some 3)]⟩ 99 (0, 0)), (2, .cells ⟨lc⟩ 46 (0, 0)), (3, .map #[] 0)]⟩
def mt0b (lc oc : List Value) (now : Int) : AH := ⟨5, 5, [(0, .cells ⟨lc⟩ 46 (0, 0)), (1, .cells ⟨[.slice (some ⟨3, 0, none⟩) 1 1, .int .i64 now, .map (some 4)]⟩ 99 (0, 0)), (2, .cells ⟨oc⟩ 41 (0, 0)), (3, .cells ⟨lc⟩ 46 (0, 0)), (4, .map #[] 0)]⟩
def mt1 (lc kc oc : List Value) (w : ByteArray) (now : Int) (kt kp : TypeId) : AH := ⟨7, 7, [(0, .cells ⟨lc⟩ 46 (0, 0)), (1, .cells ⟨[.slice (some ⟨3, 0, none⟩) 1 1, .int .i64 now, .map (some 4)]⟩ 99 (0, 0)), (2, .cells ⟨oc⟩ 41 (0, 0)), (3, .cells ⟨lc⟩ 46 (0, 0)),
  (4, .map ⟨[⟨.string w, .slice (some ⟨5, 0, none⟩) 1 1, 0⟩]⟩ 1), (5, .cells ⟨[.iface kp (.pointer (some ⟨6, 0, none⟩))]⟩ 101 (0, 0)), (6, .cells ⟨kc⟩ kt (0, 0))]⟩
/-- A round: the ask at a place, told; V: what is said of it. -/
def rndT (xs : List Value) (n i now t c l : Int) (E R V : Prop) : Prop :=
  bif decide (i < n) then bif decide (0 ≤ i) && decide (i < ((Array.mk xs).size : Int)) && true then elA xs i = akV (atA xs i) ∧ akC (atA xs i) = akC (t, annB, c, l) ∧
    bif akOK (t, annB, c, l) then bif decide (t < now) then R else V else False else False else E
def apT (j : Nat) (oc : List Value) (v : Vd) (B : List Value → Prop) : Prop :=
  bif (j + 1).ble j then False else bif (j + 1).ble 9223372036854775807 && ((j + 1) * 32).ble 140737488355328 then bif (0 + j * 3).ble (Array.mk oc).size && true && true then
    NoNames (.cells ⟨List.take (j * 3) (List.drop 0 (Array.mk oc).toList) ++ vdC v⟩ 41 (0, 0)) ∧ B (List.take (j * 3) (List.drop 0 (Array.mk oc).toList) ++ vdC v) else False else False
/-! windows -/
def usT (p a n t : Int) (K : Int → Prop) : Prop := bif !decide (p = 0) then bif IntKind.i64.wrap (t.tdiv p) != a then K 0 else K n else False
def vW (m p b a n t c : Int) (ok : Int → Int → Prop) (no : Int → Prop) : Prop :=
  usT p a n t fun u => bif decide (c ≤ IntKind.i64.wrap (m - u)) then bif !decide (p = 0) then usT p a n t fun u => ok (IntKind.i64.wrap (t.tdiv p)) (IntKind.i64.wrap (u + c)) else False
    else bif decide (c ≤ m) then bif !decide (p = 0) then no (IntKind.i64.wrap (IntKind.i64.wrap (IntKind.i64.wrap (IntKind.i64.wrap (t.tdiv p) + 1) * p) - t)) else False else no (-1)
theorem rpW0 (xs : List Value) (m p b n i now t c l : Int) (B : List Value → AH → Prop) (Q : AExit → List Value → AH → Prop) :
    once 1 Tryz.prog SRp [] (ghost1 11 (tellB 11 (akC (t, annB, c, l)))) 3000 47 [8, 9, 26, 27, 28] [2] [9] [1] (oneLoop (codeOf Tryz.f18) 10) (rpV xs (.slice none 0 0) n i) (mt0 (lmC keyB 1 m p b) now) B Q =
      rndT xs n i now t c l (Q (.exit 0) [.slice none 0 0] (rpX (lmC keyB 1 m p b))) (Q .ret [.slice none 0 0] (rpX (lmC keyB 1 m p b)))
        (vW m p b 0 0 t c (fun a2 n2 => NoNames (.cells ⟨vdC okVd⟩ 41 (0, 0)) ∧ B (rpV xs (.slice (some ⟨2, 0, none⟩) 1 1) n (IntKind.i64.wrap (i + 1))) (mt1 (lmC keyB 1 m p b) ((lmC keyB 1 m p b) ++ [.int .i64 a2, .int .i64 n2]) (vdC okVd) annB t 184 182))
          (fun w => NoNames (.cells ⟨vdC (noVd w)⟩ 41 (0, 0)) ∧ B (rpV xs (.slice (some ⟨2, 0, none⟩) 1 1) n (IntKind.i64.wrap (i + 1))) (mt0b (lmC keyB 1 m p b) (vdC (noVd w)) t))) := by kernel_rfl
theorem rpW1 (xs oc : List Value) (j : Nat) (m p b a1 n1 n i now t c l : Int) (B : List Value → AH → Prop) (Q : AExit → List Value → AH → Prop) :
    once 1 Tryz.prog SRp [] (ghost1 11 (tellB 11 (akC (t, annB, c, l)))) 3000 47 [8, 9, 26, 27, 28] [2] [9] [1] (oneLoop (codeOf Tryz.f18) 10) (rpV xs (.slice (some ⟨2, 0, none⟩) j j) n i) (mt1 (lmC keyB 1 m p b) ((lmC keyB 1 m p b) ++ [.int .i64 a1, .int .i64 n1]) oc annB now 184 182) B Q =
      rndT xs n i now t c l (NoNames (.cells ⟨oc⟩ 41 (0, 0)) ∧ Q (.exit 0) [.slice (some ⟨1, 0, none⟩) j j] (rpXo (lmC keyB 1 m p b) oc)) (NoNames (.cells ⟨oc⟩ 41 (0, 0)) ∧ Q .ret [.slice (some ⟨1, 0, none⟩) j j] (rpXo (lmC keyB 1 m p b) oc))
        (vW m p b a1 n1 t c (fun a2 n2 => apT j oc okVd fun o2 => B (rpV xs (.slice (some ⟨2, 0, none⟩) (j + 1) (j + 1)) n (IntKind.i64.wrap (i + 1))) (mt1 (lmC keyB 1 m p b) ((lmC keyB 1 m p b) ++ [.int .i64 a2, .int .i64 n2]) o2 annB t 184 182))
          (fun w => apT j oc (noVd w) fun o2 => B (rpV xs (.slice (some ⟨2, 0, none⟩) (j + 1) (j + 1)) n (IntKind.i64.wrap (i + 1))) (mt1 (lmC keyB 1 m p b) ((lmC keyB 1 m p b) ++ [.int .i64 a1, .int .i64 n1]) o2 annB t 184 182))) := by kernel_rfl

/-! buckets -/
def upT (a b : Int) (K : Int → Prop) : Prop := bif !decide (b = 0) then bif !decide (b = 0) then bif a.tmod b != 0 then K (IntKind.i64.wrap (IntKind.i64.wrap (a.tdiv b) + 1)) else K (IntKind.i64.wrap (a.tdiv b)) else False else False
def nwT (m p b a l t : Int) (K : Int → Prop) : Prop :=
  upT (IntKind.i64.wrap (IntKind.i64.wrap (b * p) - l)) m fun u => bif decide (IntKind.i64.wrap (t - a) ≥ u) then K (IntKind.i64.wrap (b * p)) else K (IntKind.i64.wrap (l + IntKind.i64.wrap (m * IntKind.i64.wrap (t - a))))
def vB (m p b a l t c : Int) (ok : Int → Int → Prop) (no : Int → Prop) : Prop :=
  nwT m p b a l t fun x => bif !decide (p = 0) then bif decide (c ≤ IntKind.i64.wrap (x.tdiv p)) then nwT m p b a l t fun y => ok t (IntKind.i64.wrap (y - IntKind.i64.wrap (c * p)))
    else bif decide (c ≤ b) then nwT m p b a l t fun y => upT (IntKind.i64.wrap (IntKind.i64.wrap (c * p) - y)) m no else no (-1) else False
theorem rpB0 (xs : List Value) (m p b n i now t c l : Int) (B : List Value → AH → Prop) (Q : AExit → List Value → AH → Prop) :
    once 1 Tryz.prog SRp [] (ghost1 11 (tellB 11 (akC (t, annB, c, l)))) 3000 47 [8, 9, 26, 27, 28] [2] [9] [1] (oneLoop (codeOf Tryz.f18) 10) (rpV xs (.slice none 0 0) n i) (mt0 (lmC keyB 3 m p b) now) B Q =
      rndT xs n i now t c l (Q (.exit 0) [.slice none 0 0] (rpX (lmC keyB 3 m p b))) (Q .ret [.slice none 0 0] (rpX (lmC keyB 3 m p b)))
        (vB m p b 0 (IntKind.i64.wrap (b * p)) t c (fun a2 n2 => NoNames (.cells ⟨vdC okVd⟩ 41 (0, 0)) ∧ B (rpV xs (.slice (some ⟨2, 0, none⟩) 1 1) n (IntKind.i64.wrap (i + 1))) (mt1 (lmC keyB 3 m p b) ((lmC keyB 3 m p b) ++ [.int .i64 a2, .int .i64 n2]) (vdC okVd) annB t 192 190))
          (fun w => NoNames (.cells ⟨vdC (noVd w)⟩ 41 (0, 0)) ∧ B (rpV xs (.slice (some ⟨2, 0, none⟩) 1 1) n (IntKind.i64.wrap (i + 1))) (mt0b (lmC keyB 3 m p b) (vdC (noVd w)) t))) := by kernel_rfl
theorem rpB1 (xs oc : List Value) (j : Nat) (m p b a1 n1 n i now t c l : Int) (B : List Value → AH → Prop) (Q : AExit → List Value → AH → Prop) :
    once 1 Tryz.prog SRp [] (ghost1 11 (tellB 11 (akC (t, annB, c, l)))) 3000 47 [8, 9, 26, 27, 28] [2] [9] [1] (oneLoop (codeOf Tryz.f18) 10) (rpV xs (.slice (some ⟨2, 0, none⟩) j j) n i) (mt1 (lmC keyB 3 m p b) ((lmC keyB 3 m p b) ++ [.int .i64 a1, .int .i64 n1]) oc annB now 192 190) B Q =
      rndT xs n i now t c l (NoNames (.cells ⟨oc⟩ 41 (0, 0)) ∧ Q (.exit 0) [.slice (some ⟨1, 0, none⟩) j j] (rpXo (lmC keyB 3 m p b) oc)) (NoNames (.cells ⟨oc⟩ 41 (0, 0)) ∧ Q .ret [.slice (some ⟨1, 0, none⟩) j j] (rpXo (lmC keyB 3 m p b) oc))
        (vB m p b a1 n1 t c (fun a2 n2 => apT j oc okVd fun o2 => B (rpV xs (.slice (some ⟨2, 0, none⟩) (j + 1) (j + 1)) n (IntKind.i64.wrap (i + 1))) (mt1 (lmC keyB 3 m p b) ((lmC keyB 3 m p b) ++ [.int .i64 a2, .int .i64 n2]) o2 annB t 192 190))
          (fun w => apT j oc (noVd w) fun o2 => B (rpV xs (.slice (some ⟨2, 0, none⟩) (j + 1) (j + 1)) n (IntKind.i64.wrap (i + 1))) (mt1 (lmC keyB 3 m p b) ((lmC keyB 3 m p b) ++ [.int .i64 a1, .int .i64 n1]) o2 annB t 192 190))) := by kernel_rfl
end Go.Proofs.YtbigicdojndnjaaGreatDoor
