/-
  'RightInstances' as a specification, one for each way its flips can fall; the loops of 'RoundsAreFair'.
-/
import Derived.Test.YtddhljigbchemaaGreatDoorRoundC
namespace Go.Proofs.YtddhljigbchemaaGreatDoor
open Go.Ev Go.RowKit

def flipOk (r : Int) (b : Bool) : Bool := cond b (!decide (r = 0)) (decide (r = 0))
noncomputable def picked (xs : Array Value) (ps : List (ByteArray × Int)) : List (ByteArray × Int) := ps.map fun p => (p.1, wtV (nextR xs p.2 5))
noncomputable def wOk (xs : Array Value) (q : (ByteArray × Int) × Int) : Bool := decide (wtV (nextR xs q.1.2 5) = q.2)
theorem picked_eq {xs : Array Value} : ∀ (ps : List (ByteArray × Int)) (ws : List Int), ps.length = ws.length → (ps.zip ws).all (wOk xs) = true → (ps.map Prod.fst).zip ws = picked xs ps
  | [], [], _, _ => rfl
  | p :: ps, w :: ws, h, h2 => by
    simp only [List.zip_cons_cons, List.all_cons, Bool.and_eq_true] at h2
    have ih := picked_eq ps ws (by simpa using h) h2.2
    have e : wtV (nextR xs p.2 5) = w := of_decide_eq_true h2.1
    simp only [picked, List.map_cons, List.zip_cons_cons] at ih ⊢
    rw [ih, e]
noncomputable def spRight (fl : List (Int × Bool)) (ps : List (ByteArray × Int)) (ws : List Int) (last : Int) (f : FuncId) (args : Array Value) (h : AH) : Option (Bool × Value × AH) :=
  cond (Nat.beq f 23) (match args with
    | ⟨[.pointer (some ⟨b, 0, none⟩)]⟩ => match h.get b with
      | some (.cells ⟨[.func (.yield 0) xs ⟨[]⟩, .int .i64 at_]⟩ t (0, 0)) =>
        some (Nat.beq t 25 && decide (at_ = 0) && allInts xs && fl.all (fun p => flipOk (nextR xs p.1 4) p.2) && Nat.beq ps.length ws.length && (ps.zip ws).all (wOk xs), fz ⟨((ps.map Prod.fst).zip ws).map instV⟩, h.set b (.cells ⟨[fz xs, .int .i64 last]⟩ 25 (0, 0)))
      | _ => none
    | _ => none) none

theorem spRight_ok {fl : List (Int × Bool)} {ps : List (ByteArray × Int)} {ws : List Int} {last : Int}
    (hR : ∀ zs : List Int, fl.all (fun p => flipOk (nextR (intsV zs) p.1 4) p.2) = true → FnOK 1 Tryz.prog 23 ⟨[.pointer (some ⟨0, 0, none⟩)]⟩ (Ev.h1 (strm (intsV zs) 0))
      (fun u g => u = fz ⟨(picked (intsV zs) ps).map instV⟩ ∧ g.get 0 = some (strm (intsV zs) last))) : SpOK (spRight fl ps ws last) := by
  intro f args h v h' hs
  unfold spRight at hs
  obtain ⟨hf, hs2⟩ := cond_some hs
  clear hs
  have hs := hs2
  clear hs2
  have := Nat.eq_of_beq_eq_true hf
  subst this
  split at hs
  · rename_i b
    split at hs
    · rename_i xs at_ t hg
      injection hs with hs
      injection hs with hb hs
      injection hs with hv hh
      subst hv hh
      rw [Bool.and_eq_true, Bool.and_eq_true, Bool.and_eq_true, Bool.and_eq_true, Bool.and_eq_true] at hb
      obtain ⟨⟨⟨⟨⟨b0, b1⟩, b2⟩, b3⟩, b4⟩, b5⟩ := hb
      rw [picked_eq ps ws (Nat.eq_of_beq_eq_true b4) b5]
      have b0 := Nat.eq_of_beq_eq_true b0
      subst b0
      have b1 : at_ = 0 := of_decide_eq_true b1
      subst b1
      obtain ⟨zs, rfl⟩ := intsV_of_all b2
      refine ⟨?_, Nat.le_refl _⟩
      exact FnOK.ref (cs := ⟨[fz (intsV zs), .int .i64 0]⟩) (cs' := ⟨[fz (intsV zs), .int .i64 last]⟩) (args := []) (hR zs b3) rfl (by simp [p1, fz]) (by simp [p1, fz]) rfl hg
    · cases hs
  · cases hs

def SN : SC := ⟨idn, fun _ _ _ => none, false, false⟩
theorem SN_ok : SN.cfg.OK Tryz.prog := none_ok.cfg
noncomputable def L2 : Hooks := hook1 17 (hookLS 0 83 [5, 8, 11, 12, 47, 48, 49, 55, 56, 57] [] [5, 8, 11, 12, 47, 48, 49] closedCn)
noncomputable def closedOut (vals : List Value) (h : AH) (K : AExit → List Value → AH → Prop) : Prop := iter 0 Tryz.prog SN [] L2 100 83 [5, 8, 47, 48, 49] [] [2, 5, 8] [] (oneLoop (codeOf Tryz.f5) 13) 6 vals h K
noncomputable def L1 : Hooks := hook1 13 (hookLS 0 83 [5, 8, 47, 48, 49] [] [2, 5, 8] closedOut)
theorem one13 : (loopAt (codeOf Tryz.f5) 13).length = 1 := by kernel_rfl
theorem one17 : (loopAt (oneLoop (codeOf Tryz.f5) 13) 17).length = 1 := by kernel_rfl
theorem some5 : Tryz.f5.body.isSome = true := by kernel_rfl
theorem L2_ok : LoopsOK 0 Tryz.prog 83 L2 (oneLoop (codeOf Tryz.f5) 13) :=
  loops_one one17 (hook_ok (G := []) (L := noHooks) (f := 100) (sameX := []) SQ_ok mixed (by decide) (loops_none _ _ _ _) closedCn_ok)
theorem L1_ok : LoopsOK 0 Tryz.prog 83 L1 (codeOf Tryz.f5) :=
  loops_one one13 (hook_ok (G := []) (L := L2) (f := 100) (sameX := []) SN_ok mixed (by decide) L2_ok (fun vals h K hc => ⟨6, hc⟩))

open Classical in
/-- Whether a list is what 'Round' returns. -/
noncomputable def isRound (ks : List ByteArray) (ws : List Int) (m : Int) (rs : List Value) : Bool := decide (rs = (roundK ks ws m.toNat).map Value.string)
/-- 'Round', with its list told beforehand. -/
noncomputable def spRoundL (ks : List ByteArray) (rs : List Value) (f : FuncId) (args : Array Value) (h : AH) : Option (Bool × Value × AH) :=
  cond (Nat.beq f 24) (match args with
    | ⟨[.func (.yield 0) ⟨xs⟩ ⟨[]⟩, .int .i64 m]⟩ => some (xs.all shp && (wsOf xs).all rng && beqK (ksOf xs) ks && decide (1 ≤ m) && decide (m ≤ 2000) && isRound ks (wsOf xs) m rs, .tuple ⟨[fz ⟨rs⟩, .int .i64 0]⟩, h)
    | _ => none) none
theorem spRoundL_ok {ks : List ByteArray} {rs : List Value} (h2 : SpOK (spRound ks)) : SpOK (spRoundL ks rs) := by
  intro f args h v h' hs
  unfold spRoundL at hs
  obtain ⟨hf, hs2⟩ := cond_some hs
  clear hs
  have hs := hs2
  clear hs2
  split at hs
  · rename_i xs m
    injection hs with hs
    injection hs with hb hs
    injection hs with hv hh
    subst hv hh
    rw [Bool.and_eq_true] at hb
    have e : rs = (roundK ks (wsOf xs) m.toNat).map Value.string := by
      have h3 := hb.2
      unfold isRound at h3
      exact @of_decide_eq_true _ (_) h3
    subst e
    refine h2 f _ h _ h ?_
    simp only [spRound, hf, cond_true, hb.1]
  · cases hs

noncomputable def spLaw (fl : List (Int × Bool)) (ps : List (ByteArray × Int)) (ws : List Int) (last : Int) (rs : List Value) : Ev.Spec := spOr spReady (spOr (spRight fl ps ws last) (spOr (spRoundL (ps.map Prod.fst) rs) spEq))
noncomputable def SW (fl : List (Int × Bool)) (ps : List (ByteArray × Int)) (ws : List Int) (last : Int) (rs : List Value) : SC := ⟨idn, spLaw fl ps ws last rs, false, false⟩
theorem SW_ok {fl : List (Int × Bool)} {ps : List (ByteArray × Int)} {ws : List Int} {last : Int} {rs : List Value} (h1 : SpOK (spRight fl ps ws last)) (h2 : SpOK (spRound (ps.map Prod.fst))) : (SW fl ps ws last rs).cfg.OK Tryz.prog :=
  (SpOK.or spReady_ok (SpOK.or h1 (SpOK.or (spRoundL_ok h2) spEq_ok))).cfg
theorem flipOk_t {r : Int} (h : flipOk r true = true) : r ≠ 0 := by simpa [flipOk] using h
theorem flipOk_f {r : Int} (h : flipOk r false = true) : r = 0 := by simpa [flipOk] using h
theorem ok1111 (ws : List Int) (rs : List Value) : (SW [(0, true), (2, true), (4, true), (6, true)] [(⟨#[105, 97]⟩, 1), (⟨#[105, 98]⟩, 3), (⟨#[105, 99]⟩, 5), (⟨#[105, 100]⟩, 7)] ws 8 rs).cfg.OK Tryz.prog := by
  refine SW_ok (spRight_ok ?_) spRound1111
  intro zs hf
  simp only [List.all_cons, List.all_nil, Bool.and_true, Bool.and_eq_true] at hf
  obtain ⟨g0, g2, g4, g6⟩ := hf
  exact right1111 zs (flipOk_t g0) (flipOk_t g2) (flipOk_t g4) (flipOk_t g6)
theorem ok1110 (ws : List Int) (rs : List Value) : (SW [(0, true), (2, true), (4, true), (6, false)] [(⟨#[105, 97]⟩, 1), (⟨#[105, 98]⟩, 3), (⟨#[105, 99]⟩, 5)] ws 7 rs).cfg.OK Tryz.prog := by
  refine SW_ok (spRight_ok ?_) spRound1110
  intro zs hf
  simp only [List.all_cons, List.all_nil, Bool.and_true, Bool.and_eq_true] at hf
  obtain ⟨g0, g2, g4, g6⟩ := hf
  exact right1110 zs (flipOk_t g0) (flipOk_t g2) (flipOk_t g4) (flipOk_f g6)
theorem ok1101 (ws : List Int) (rs : List Value) : (SW [(0, true), (2, true), (4, false), (5, true)] [(⟨#[105, 97]⟩, 1), (⟨#[105, 98]⟩, 3), (⟨#[105, 100]⟩, 6)] ws 7 rs).cfg.OK Tryz.prog := by
  refine SW_ok (spRight_ok ?_) spRound1101
  intro zs hf
  simp only [List.all_cons, List.all_nil, Bool.and_true, Bool.and_eq_true] at hf
  obtain ⟨g0, g2, g4, g5⟩ := hf
  exact right1101 zs (flipOk_t g0) (flipOk_t g2) (flipOk_f g4) (flipOk_t g5)
theorem ok1100 (ws : List Int) (rs : List Value) : (SW [(0, true), (2, true), (4, false), (5, false)] [(⟨#[105, 97]⟩, 1), (⟨#[105, 98]⟩, 3)] ws 6 rs).cfg.OK Tryz.prog := by
  refine SW_ok (spRight_ok ?_) spRound1100
  intro zs hf
  simp only [List.all_cons, List.all_nil, Bool.and_true, Bool.and_eq_true] at hf
  obtain ⟨g0, g2, g4, g5⟩ := hf
  exact right1100 zs (flipOk_t g0) (flipOk_t g2) (flipOk_f g4) (flipOk_f g5)
theorem ok1011 (ws : List Int) (rs : List Value) : (SW [(0, true), (2, false), (3, true), (5, true)] [(⟨#[105, 97]⟩, 1), (⟨#[105, 99]⟩, 4), (⟨#[105, 100]⟩, 6)] ws 7 rs).cfg.OK Tryz.prog := by
  refine SW_ok (spRight_ok ?_) spRound1011
  intro zs hf
  simp only [List.all_cons, List.all_nil, Bool.and_true, Bool.and_eq_true] at hf
  obtain ⟨g0, g2, g3, g5⟩ := hf
  exact right1011 zs (flipOk_t g0) (flipOk_f g2) (flipOk_t g3) (flipOk_t g5)
theorem ok1010 (ws : List Int) (rs : List Value) : (SW [(0, true), (2, false), (3, true), (5, false)] [(⟨#[105, 97]⟩, 1), (⟨#[105, 99]⟩, 4)] ws 6 rs).cfg.OK Tryz.prog := by
  refine SW_ok (spRight_ok ?_) spRound1010
  intro zs hf
  simp only [List.all_cons, List.all_nil, Bool.and_true, Bool.and_eq_true] at hf
  obtain ⟨g0, g2, g3, g5⟩ := hf
  exact right1010 zs (flipOk_t g0) (flipOk_f g2) (flipOk_t g3) (flipOk_f g5)
theorem ok1001 (ws : List Int) (rs : List Value) : (SW [(0, true), (2, false), (3, false), (4, true)] [(⟨#[105, 97]⟩, 1), (⟨#[105, 100]⟩, 5)] ws 6 rs).cfg.OK Tryz.prog := by
  refine SW_ok (spRight_ok ?_) spRound1001
  intro zs hf
  simp only [List.all_cons, List.all_nil, Bool.and_true, Bool.and_eq_true] at hf
  obtain ⟨g0, g2, g3, g4⟩ := hf
  exact right1001 zs (flipOk_t g0) (flipOk_f g2) (flipOk_f g3) (flipOk_t g4)
theorem ok1000 (ws : List Int) (rs : List Value) : (SW [(0, true), (2, false), (3, false), (4, false)] [(⟨#[105, 97]⟩, 1)] ws 5 rs).cfg.OK Tryz.prog := by
  refine SW_ok (spRight_ok ?_) spRound1000
  intro zs hf
  simp only [List.all_cons, List.all_nil, Bool.and_true, Bool.and_eq_true] at hf
  obtain ⟨g0, g2, g3, g4⟩ := hf
  exact right1000 zs (flipOk_t g0) (flipOk_f g2) (flipOk_f g3) (flipOk_f g4)
theorem ok0111 (ws : List Int) (rs : List Value) : (SW [(0, false), (1, true), (3, true), (5, true)] [(⟨#[105, 98]⟩, 2), (⟨#[105, 99]⟩, 4), (⟨#[105, 100]⟩, 6)] ws 7 rs).cfg.OK Tryz.prog := by
  refine SW_ok (spRight_ok ?_) spRound0111
  intro zs hf
  simp only [List.all_cons, List.all_nil, Bool.and_true, Bool.and_eq_true] at hf
  obtain ⟨g0, g1, g3, g5⟩ := hf
  exact right0111 zs (flipOk_f g0) (flipOk_t g1) (flipOk_t g3) (flipOk_t g5)
theorem ok0110 (ws : List Int) (rs : List Value) : (SW [(0, false), (1, true), (3, true), (5, false)] [(⟨#[105, 98]⟩, 2), (⟨#[105, 99]⟩, 4)] ws 6 rs).cfg.OK Tryz.prog := by
  refine SW_ok (spRight_ok ?_) spRound0110
  intro zs hf
  simp only [List.all_cons, List.all_nil, Bool.and_true, Bool.and_eq_true] at hf
  obtain ⟨g0, g1, g3, g5⟩ := hf
  exact right0110 zs (flipOk_f g0) (flipOk_t g1) (flipOk_t g3) (flipOk_f g5)
theorem ok0101 (ws : List Int) (rs : List Value) : (SW [(0, false), (1, true), (3, false), (4, true)] [(⟨#[105, 98]⟩, 2), (⟨#[105, 100]⟩, 5)] ws 6 rs).cfg.OK Tryz.prog := by
  refine SW_ok (spRight_ok ?_) spRound0101
  intro zs hf
  simp only [List.all_cons, List.all_nil, Bool.and_true, Bool.and_eq_true] at hf
  obtain ⟨g0, g1, g3, g4⟩ := hf
  exact right0101 zs (flipOk_f g0) (flipOk_t g1) (flipOk_f g3) (flipOk_t g4)
theorem ok0100 (ws : List Int) (rs : List Value) : (SW [(0, false), (1, true), (3, false), (4, false)] [(⟨#[105, 98]⟩, 2)] ws 5 rs).cfg.OK Tryz.prog := by
  refine SW_ok (spRight_ok ?_) spRound0100
  intro zs hf
  simp only [List.all_cons, List.all_nil, Bool.and_true, Bool.and_eq_true] at hf
  obtain ⟨g0, g1, g3, g4⟩ := hf
  exact right0100 zs (flipOk_f g0) (flipOk_t g1) (flipOk_f g3) (flipOk_f g4)
theorem ok0011 (ws : List Int) (rs : List Value) : (SW [(0, false), (1, false), (2, true), (4, true)] [(⟨#[105, 99]⟩, 3), (⟨#[105, 100]⟩, 5)] ws 6 rs).cfg.OK Tryz.prog := by
  refine SW_ok (spRight_ok ?_) spRound0011
  intro zs hf
  simp only [List.all_cons, List.all_nil, Bool.and_true, Bool.and_eq_true] at hf
  obtain ⟨g0, g1, g2, g4⟩ := hf
  exact right0011 zs (flipOk_f g0) (flipOk_f g1) (flipOk_t g2) (flipOk_t g4)
theorem ok0010 (ws : List Int) (rs : List Value) : (SW [(0, false), (1, false), (2, true), (4, false)] [(⟨#[105, 99]⟩, 3)] ws 5 rs).cfg.OK Tryz.prog := by
  refine SW_ok (spRight_ok ?_) spRound0010
  intro zs hf
  simp only [List.all_cons, List.all_nil, Bool.and_true, Bool.and_eq_true] at hf
  obtain ⟨g0, g1, g2, g4⟩ := hf
  exact right0010 zs (flipOk_f g0) (flipOk_f g1) (flipOk_t g2) (flipOk_f g4)
theorem ok0001 (ws : List Int) (rs : List Value) : (SW [(0, false), (1, false), (2, false)] [(⟨#[105, 100]⟩, 3)] ws 4 rs).cfg.OK Tryz.prog := by
  refine SW_ok (spRight_ok ?_) spRound0001
  intro zs hf
  simp only [List.all_cons, List.all_nil, Bool.and_true, Bool.and_eq_true] at hf
  obtain ⟨g0, g1, g2⟩ := hf
  exact right0001 zs (flipOk_f g0) (flipOk_f g1) (flipOk_f g2)
end Go.Proofs.YtddhljigbchemaaGreatDoor
