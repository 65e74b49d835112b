/-
  Queries: a long one, as it is drawn.
-/
import Derived.Test.YtnaeehnkabojdaaGreatDoorQuO
namespace Go.Proofs.YtnaeehnkabojdaaGreatDoor
open Go.Ev Go.RowKit RecLaw PathLaw QueryLaw

noncomputable def SWd : SC := ⟨idn, spOr spJr (spNk 5 0), true, true⟩
theorem SWd_ok : SWd.cfg.OK Tryz.prog := (spJr_ok.or (spNk_ok 5 0)).cfg
def wO : Obj := .cells ⟨[.string ⟨#[120]⟩]⟩ 9 (0, 0)
def wB0 (xs : Array Value) (d : Int) : List (Nat × Obj) := [(0, strm xs d), (1, wO)]
def wH0 (xs : Array Value) (d : Int) : AH := ⟨2, 2, wB0 xs d⟩
def wH1 (xs : Array Value) (d : Int) (cs : List Value) : AH := ⟨3, 3, [(0, strm xs d), (1, wO), (2, .cells ⟨cs⟩ 9 (0, 0))]⟩
noncomputable def apX (cs : List Value) (k : Nat) (v : Value) (X : List Value → Nat → Prop) : Prop :=
  bif (k + 1).ble k then False else bif (k + 1).ble 9223372036854775807 && ((k + 1) * 16).ble 140737488355328 then bif (0 + k * 1).ble (Array.mk cs).size && true && true then X (List.take (k * 1) (List.drop 0 (Array.mk cs).toList) ++ [v]) (k + 1) else False else False
theorem wdr0 (xs : Array Value) (d n i : Int) (B : List Value → AH → Prop) (Q : AExit → List Value → AH → Prop) : once 2 Tryz.prog SWd [] noHooks 600 23 [0, 2, 3, 9, 10, 11] [0, 1, 2] [2, 9] [0, 1, 2] (oneLoop (codeOf Tryz.f91) 3) [.pointer (some ⟨0, 0, none⟩), .string ⟨#[38]⟩, .slice (some ⟨1, 0, none⟩) 1 1, .slice none 0 0, .int .i64 n, .int .i64 i] (wH0 xs d) B Q =
    bif decide (i < n) then drK xs d 1 0 (NoNames (strm xs (d + 1)) ∧ NoNames wO ∧ NoNames (.cells ⟨[.string ⟨#[120]⟩]⟩ 9 (0, 0)) ∧ B [.pointer (some ⟨0, 0, none⟩), .string ⟨#[38]⟩, .slice (some ⟨1, 0, none⟩) 1 1, .slice (some ⟨2, 0, none⟩) 1 1, .int .i64 n, .int .i64 (W (i + 1))] (wH1 xs (d + 1) [.string ⟨#[120]⟩]))
    else NoNames (strm xs d) ∧ NoNames wO ∧ Q (.exit 0) [.string ⟨#[38]⟩, .slice none 0 0] (wH0 xs d) := by kernel_rfl
theorem wdr1 (xs : Array Value) (cs : List Value) (k : Nat) (d n i : Int) (B : List Value → AH → Prop) (Q : AExit → List Value → AH → Prop) : once 2 Tryz.prog SWd [] noHooks 600 23 [0, 2, 3, 9, 10, 11] [0, 1, 2] [2, 9] [0, 1, 2] (oneLoop (codeOf Tryz.f91) 3) [.pointer (some ⟨0, 0, none⟩), .string ⟨#[38]⟩, .slice (some ⟨1, 0, none⟩) 1 1, .slice (some ⟨2, 0, none⟩) k k, .int .i64 n, .int .i64 i] (wH1 xs d cs) B Q =
    bif decide (i < n) then drK xs d 1 0 (apX cs k (.string ⟨#[120]⟩) fun cs k => NoNames (strm xs (d + 1)) ∧ NoNames wO ∧ NoNames (.cells ⟨cs⟩ 9 (0, 0)) ∧ B [.pointer (some ⟨0, 0, none⟩), .string ⟨#[38]⟩, .slice (some ⟨1, 0, none⟩) 1 1, .slice (some ⟨2, 0, none⟩) k k, .int .i64 n, .int .i64 (W (i + 1))] (wH1 xs (d + 1) cs))
    else NoNames (strm xs d) ∧ NoNames wO ∧ NoNames (.cells ⟨cs⟩ 9 (0, 0)) ∧ Q (.exit 0) [.string ⟨#[38]⟩, .slice (some ⟨2, 0, none⟩) k k] (wH1 xs d cs) := by kernel_rfl
def xR (k : Nat) : List Value := List.replicate k (.string ⟨#[120]⟩)
theorem xR_nn (k : Nat) : NoNames (.cells ⟨xR k⟩ 9 (0, 0)) := by
  intro v hv
  have := List.eq_of_mem_replicate (show v ∈ xR k from hv)
  subst this
  rfl
theorem st_nn (xs : Array Value) (d : Int) : NoNames (strm xs d) := by
  intro v hv
  have hv : v ∈ [fz xs, Value.int .i64 d] := hv
  simp only [List.mem_cons, List.not_mem_nil, or_false] at hv
  rcases hv with rfl | rfl <;> rfl
theorem wO_nn : NoNames wO := by
  intro v hv
  have hv : v ∈ [Value.string ⟨#[120]⟩] := hv
  rw [List.mem_singleton.1 hv]
  rfl
theorem one0 (zs : List Int) {e : Int} (h0 : 0 ≤ e) (h1 : e ≤ 1000000) : nextR (intsV zs) e 1 = 0 := by
  have := (nextR_spec zs 1 e h0 h1 (by omega) (by omega)).1
  omega
theorem wd_it (n : Nat) {vals : List Value} {h : AH} {K : AExit → List Value → AH → Prop} (hx : once 2 Tryz.prog SWd [] noHooks 600 23 [0, 2, 3, 9, 10, 11] [0, 1, 2] [2, 9] [0, 1, 2] (oneLoop (codeOf Tryz.f91) 3) vals h (fun v g => iter 2 Tryz.prog SWd [] noHooks 600 23 [0, 2, 3, 9, 10, 11] [0, 1, 2] [2, 9] [0, 1, 2] (oneLoop (codeOf Tryz.f91) 3) n v g K) K) : iter 2 Tryz.prog SWd [] noHooks 600 23 [0, 2, 3, 9, 10, 11] [0, 1, 2] [2, 9] [0, 1, 2] (oneLoop (codeOf Tryz.f91) 3) (n + 1) vals h K := hx
theorem apX_ok {k : Nat} {X : List Value → Nat → Prop} (hl : k ≤ 1000) (hX : X (xR (k + 1)) (k + 1)) : apX (xR k) k (.string ⟨#[120]⟩) X := by
  have hlen : (xR k).length = k := List.length_replicate
  refine pick_f (ble_no (by omega)) (need_mk ?_ (need_mk ?_ ?_))
  · rw [Bool.and_eq_true, Nat.ble_eq, Nat.ble_eq]; omega
  · have : (0 + k * 1).ble (Array.mk (xR k)).size = true := by
      rw [Nat.ble_eq]
      show 0 + k * 1 ≤ (xR k).length
      omega
    rw [this]; rfl
  · have e : List.take (k * 1) (List.drop 0 (Array.mk (xR k)).toList) ++ [.string ⟨#[120]⟩] = xR (k + 1) := by
      rw [List.drop_zero, Nat.mul_one]
      show List.take k (xR k) ++ _ = _
      rw [List.take_of_length_le (by omega)]
      unfold xR
      rw [List.replicate_succ']
    rw [e]
    exact hX
theorem wd_loop (zs : List Int) {d : Int} (h0 : 0 ≤ d) (h1 : d ≤ 1000) (n : Nat) (hn : n ≤ 500) (K : AExit → List Value → AH → Prop) (hK : K (.exit 0) [.string ⟨#[38]⟩, .slice (some ⟨2, 0, none⟩) n n] (wH1 (intsV zs) (d + n) (xR n))) :
    ∀ (r k : Nat), 1 ≤ k → k + r = n → iter 2 Tryz.prog SWd [] noHooks 600 23 [0, 2, 3, 9, 10, 11] [0, 1, 2] [2, 9] [0, 1, 2] (oneLoop (codeOf Tryz.f91) 3) (r + 1) [.pointer (some ⟨0, 0, none⟩), .string ⟨#[38]⟩, .slice (some ⟨1, 0, none⟩) 1 1, .slice (some ⟨2, 0, none⟩) k k, .int .i64 (n : Int), .int .i64 (k : Int)] (wH1 (intsV zs) (d + k) (xR k)) K
  | 0, k, _, h3 => by
    have : k = n := by omega
    subst this
    exact wd_it 0 ((wdr1 _ _ _ _ _ _ _ K).mpr (pick_f (decide_eq_false (by omega)) ⟨st_nn _ _, wO_nn, xR_nn _, hK⟩))
  | r + 1, k, h2, h3 => by
    refine wd_it _ ((wdr1 _ _ _ _ _ _ _ K).mpr (pick_t (decide_eq_true (by omega)) (drK_mk (by omega) (by omega) (one0 zs (by omega) (by omega)) (apX_ok (by omega) ⟨st_nn _ _, wO_nn, xR_nn _, ?_⟩))))
    have := wd_loop zs h0 h1 n hn K hK r (k + 1) (by omega) (by omega)
    rw [show W ((k : Int) + 1) = ((k + 1 : Nat) : Int) from w_nat 1 (by omega) (by omega), show d + (k : Int) + 1 = d + ((k + 1 : Nat) : Int) by omega]
    exact this
theorem oneWD : (loopAt (codeOf Tryz.f91) 3).length = 1 := by kernel_rfl
theorem someWD : Tryz.f91.body.isSome = true := by kernel_rfl
def okJx (cs : List Value) (k : Nat) : Bool := cs.all isStr && Nat.beq cs.length k && Nat.blt 0 k && Nat.ble k k && Nat.ble k 1000 && lenJ cs ⟨#[38]⟩
noncomputable def joX (cs : List Value) : ByteArray := bl (Lib.join ((strsOf cs).map (·.data.toList)) [38])
theorem wdf (xs : Array Value) (d e : Int) (cs : List Value) (k : Nat) (C : List Value → AH → Prop) (Q : Value → Option Obj → Option Obj → Prop) : tfn Tryz.prog SWd [] (hook1 3 (hookLS 2 23 [0, 2, 3, 9, 10, 11] [0, 1, 2] [2, 9] (fun vals h K => C vals h ∧ K (.exit 0) [.string ⟨#[38]⟩, .slice (some ⟨2, 0, none⟩) k k] (wH1 xs e cs)))) 600 [] Tryz.f91 [.pointer (some ⟨0, 0, none⟩), .int .i64 101, .string ⟨#[38]⟩, .slice (some ⟨1, 0, none⟩) 1 1] (wH0 xs d) (fun v h => Q v (h.get 0) (h.get 1)) =
    (NoNames (strm xs d) ∧ NoNames wO ∧ C [.pointer (some ⟨0, 0, none⟩), .string ⟨#[38]⟩, .slice (some ⟨1, 0, none⟩) 1 1, .slice none 0 0, .int .i64 101, .int .i64 0] (wH0 xs d) ∧ bif okJx cs k then Q (.string (joX cs)) (some (strm xs e)) (some wO) else False) := by kernel_rfl
noncomputable def w101 : ByteArray := joX (xR 101)
theorem w101_ok : okJx (xR 101) 101 = true := by decide +kernel
set_option maxRecDepth 100000 in
theorem wd_fn (zs : List Int) {d : Int} (h0 : 0 ≤ d) (h1 : d ≤ 1000) : FnOK 2 Tryz.prog 91 ⟨[.pointer (some ⟨0, 0, none⟩), .int .i64 101, .string ⟨#[38]⟩, .slice (some ⟨1, 0, none⟩) 1 1]⟩ (wH0 (intsV zs) d) (fun v g => v = .string w101 ∧ g = ⟨2, 2, wB0 (intsV zs) (d + 101)⟩) := by
  have hsp : LSpec 2 Tryz.prog 23 (oneLoop (codeOf Tryz.f91) 3) (hookLS 2 23 [0, 2, 3, 9, 10, 11] [0, 1, 2] [2, 9] (fun vals h K => (vals = [.pointer (some ⟨0, 0, none⟩), .string ⟨#[38]⟩, .slice (some ⟨1, 0, none⟩) 1 1, .slice none 0 0, .int .i64 101, .int .i64 0] ∧ h = wH0 (intsV zs) d) ∧ K (.exit 0) [.string ⟨#[38]⟩, .slice (some ⟨2, 0, none⟩) 101 101] (wH1 (intsV zs) (d + 101) (xR 101)))) := by
    refine hook_ok (G := []) (L := noHooks) (f := 600) (sameX := [0, 1, 2]) SWd_ok mixed (by decide) (loops_none _ _ _ _) ?_
    rintro vals h K ⟨⟨rfl, rfl⟩, hK⟩
    refine ⟨102, wd_it 101 ((wdr0 _ _ _ _ _ K).mpr (pick_t rfl (drK_mk h0 (by omega) (one0 zs h0 (by omega)) ⟨st_nn _ _, wO_nn, xR_nn 1, ?_⟩)))⟩
    exact wd_loop zs h0 h1 101 (by omega) K hK 100 1 (by omega) rfl
  refine FnOK.weak1 ((FnOK.ttree SWd_ok mixed Tryz.func91 someWD (loops_one oneWD hsp) (wdf (intsV zs) d (d + 101) (xR 101) 101 _ (fun v o q => v = .string w101 ∧ o = some (strm (intsV zs) (d + 101)) ∧ q = some wO)) ?_).mono ?_)
  · exact ⟨st_nn _ _, wO_nn, ⟨rfl, rfl⟩, need_mk w101_ok ⟨rfl, rfl, rfl⟩⟩
  · rintro v g ⟨rfl, g0, g1⟩
    refine ⟨_, _, Weak.norm [true] [(0, 0), (1, 1)] [0, 1] 2 rfl rfl (τ2 := [.string w101]) rfl (bl := wB0 (intsV zs) (d + 101)) (by simp [renH, g0, g1, renO, wB0, strm, wO]) ?_, rfl, rfl⟩
    intro a ha o ho
    simp only [List.mem_cons, List.not_mem_nil, or_false] at ha
    rcases ha with rfl | rfl
    · rw [g0] at ho; cases ho; exact st_nn _ _
    · rw [g1] at ho; cases ho; exact wO_nn
theorem ren_two {b y : Nat} (h : b ≠ y) : renOk [(b, 0), (y, 1)] 2 = true := by
  have h1 : Nat.beq b y = false := by cases q : Nat.beq b y with | false => rfl | true => exact (h (Nat.eq_of_beq_eq_true q)).elim
  have h2 : Nat.beq 0 1 = false := rfl
  simp [renOk, renB, invB, eqO, h1, h2]
noncomputable def spWd (g : FuncId) (args : Array Value) (h : AH) : Option (Bool × Value × AH) :=
  cond (Nat.beq g 91) (match args with
    | ⟨[.pointer (some ⟨b, 0, none⟩), .int .i64 n, .string s, .slice (some ⟨y, 0, none⟩) 1 1]⟩ => cond (decide (n = 101)) (match h.get b, h.get y with
      | some (.cells ⟨[.func (.yield 0) xs ⟨[]⟩, .int .i64 at_]⟩ t (0, 0)), some (.cells ⟨[.string x]⟩ t2 (0, 0)) =>
        some (Nat.beq t 25 && Nat.beq t2 9 && isB s 38 && isB x 120 && decide (0 ≤ at_) && decide (at_ ≤ 1000) && allInts xs && !Nat.beq b y && Nat.blt b h.next && Nat.blt y h.next, .string w101, h.set b (.cells ⟨[fz xs, .int .i64 (at_ + 101)]⟩ 25 (0, 0)))
      | _, _ => none) none
    | _ => none) none
theorem spWd_ok : SpOK spWd := by
  intro f args h v h' hs
  unfold spWd at hs
  obtain ⟨hf, hs2⟩ := cond_some hs
  clear hs
  have := Nat.eq_of_beq_eq_true hf
  subst this
  split at hs2
  · rename_i b n s y
    obtain ⟨hn, hs2⟩ := cond_some hs2
    have hn := of_decide_eq_true hn
    subst hn
    split at hs2
    · rename_i _ _ xs at_ t x t2 hg1 hg2
      injection hs2 with hs
      injection hs with hb hs
      injection hs with hv hh
      subst hv hh
      simp only [Bool.and_eq_true, Bool.not_eq_true', decide_eq_true_eq] at hb
      obtain ⟨⟨⟨⟨⟨⟨⟨⟨⟨b1, b2⟩, b3⟩, b4⟩, b5⟩, b6⟩, b7⟩, b11⟩, b12⟩, b13⟩ := hb
      have b1 := Nat.eq_of_beq_eq_true b1
      have b2 := Nat.eq_of_beq_eq_true b2
      have b3 := isB_eq (b := 38) b3
      have b4 := isB_eq (b := 120) b4
      subst b1 b2 b3 b4
      obtain ⟨zs, rfl⟩ := intsV_of_all b7
      have hne : b ≠ y := fun q => by rw [q, Nat.beq_refl] at b11; cases b11
      have hyb : Nat.beq y b = false := by cases q : Nat.beq y b with | false => rfl | true => exact (hne (Nat.eq_of_beq_eq_true q).symm).elim
      have hbl : ∀ i o, Ev.look i (wB0 (intsV zs) at_) = some o → (i = 0 ∧ o = strm (intsV zs) at_) ∨ (i = 1 ∧ o = wO) := by
        intro i o ho
        match i, ho with
        | 0, ho => cases ho; exact .inl ⟨rfl, rfl⟩
        | 1, ho => cases ho; exact .inr ⟨rfl, rfl⟩
        | i + 2, ho => cases ho
      have hF := wd_fn zs b5 b6
      have hset : (h.set b (strm (intsV zs) (at_ + 101))).get b = some (strm (intsV zs) (at_ + 101)) := look_setB_self hg1
      have hsne : ∀ a, a ≠ b → (h.set b (strm (intsV zs) (at_ + 101))).get a = h.get a := fun a ha => look_setB_ne ha _ h.blocks
      refine ⟨?_, Nat.le_refl _⟩
      show CallOK _ _ _ h _ (h.set b (strm (intsV zs) (at_ + 101)))
      refine FnOK.frame (r := [(b, 0), (y, 1)]) (q := [(0, b), (1, y)]) (bl := wB0 (intsV zs) at_) (bl' := wB0 (intsV zs) (at_ + 101)) (lw := 2) (nx := 2) (u := .string w101) (small := [.pointer (some ⟨0, 0, none⟩), .int .i64 101, .string ⟨#[38]⟩, .slice (some ⟨1, 0, none⟩) 1 1]) (ren_two hne) ?_ ?_ hF ?_ ?_ rfl ?_ ?_ ?_ ?_ ?_
      · simp [ren2s, ren2, ren1, ren0, renB, b11, show p1 (Value.int .i64 101) = true from rfl, show p1 (Value.string ⟨#[38]⟩) = true from rfl]
      · intro i o ho
        rcases hbl i o ho with ⟨rfl, rfl⟩ | ⟨rfl, rfl⟩
        · exact ⟨b, _, true, by simp, hg1, rfl, fun _ => st_nn _ _⟩
        · exact ⟨y, _, true, by simp, hg2, rfl, fun _ => wO_nn⟩
      · have b12 : Nat.blt b (h.set b (strm (intsV zs) (at_ + 101))).next = true := b12
        have b13 : Nat.blt y (h.set b (strm (intsV zs) (at_ + 101))).next = true := b13
        have h2 : Nat.beq 0 1 = false := rfl
        simp [renOk, renB, invB, eqO, b11, hyb, b12, b13, h2]
      · intro i a ha
        simp only [List.mem_cons, Prod.mk.injEq, List.not_mem_nil, or_false] at ha
        rcases ha with ⟨rfl, rfl⟩ | ⟨rfl, rfl⟩
        · exact .inl ⟨by simp, by rw [hg1]; rfl⟩
        · exact .inl ⟨by simp, by rw [hg2]; rfl⟩
      · intro a o2 ha
        by_cases hab : a = b
        · subst hab
          rw [hset] at ha
          cases ha
          exact .inr ⟨0, _, true, by simp, rfl, rfl, fun _ => st_nn _ _⟩
        · rw [hsne a hab] at ha
          by_cases hay : a = y
          · subst hay
            rw [hg2] at ha
            cases ha
            exact .inr ⟨1, _, true, by simp, rfl, rfl, fun _ => wO_nn⟩
          · refine .inl ⟨ha, fun i hi => ?_⟩
            simp only [List.mem_cons, Prod.mk.injEq, List.not_mem_nil, or_false] at hi
            rcases hi with ⟨q, _⟩ | ⟨q, _⟩
            · exact hab q
            · exact hay q
      · intro hids a o2 ha
        by_cases hab : a = b
        · subst hab; exact hids a _ hg1
        · rw [hsne a hab] at ha; exact hids a o2 ha
      · exact Nat.le_refl _
      · exact Nat.min_le_left _ _
      · intro i _ hlow
        have hlow : i < min h.low b := hlow
        exact hsne i (by omega)
    · cases hs2
  · cases hs2
end Go.Proofs.YtnaeehnkabojdaaGreatDoor
