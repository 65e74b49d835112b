/-
  Limits: the asks as they are drawn; what is wrong with them.
-/
import Derived.Test.YtbigicdojndnjaaGreatDoorLkC
namespace Go.Proofs.YtbigicdojndnjaaGreatDoor
open Go.Ev Go.RowKit LimLaw

def bobB : ByteArray := ⟨#[98, 111, 98]⟩
noncomputable def SG : SC := ⟨idn, spNext [], true, true⟩
theorem SG_ok : SG.cfg.OK Tryz.prog := (spNext_ok []).cfg
def whoL : List Value := [.string annB, .string annB, .string bobB]
def coL : List Value := [.int .i64 1, .int .i64 1, .int .i64 1, .int .i64 2, .int .i64 3, .int .i64 6]
def loL : List Value := [.int .i64 0, .int .i64 5, .int .i64 20, .int .i64 100]
def stL : List Value := [.int .i64 0, .int .i64 0, .int .i64 1, .int .i64 3, .int .i64 10, .int .i64 40]
noncomputable def askD (xs : Array Value) (d : Int) (K : ByteArray → Int → Int → Prop) : Prop :=
  dr xs d (rg (nextR xs d 3) 3 3 (dr xs (d + 1) (rg (nextR xs (d + 1) 6) 6 6 (dr xs (d + 1 + 1) (rg (nextR xs (d + 1 + 1) 4) 4 4 (K (gS whoL (nextR xs d 3)) (gI coL (nextR xs (d + 1) 6)) (gI loL (nextR xs (d + 1 + 1) 4))))))))
noncomputable def stepD (xs : Array Value) (d at_ : Int) (L : Int → Prop) : Prop := dr xs d (rg (nextR xs d 6) 6 6 (L (IntKind.i64.wrap (at_ + gI stL (nextR xs d 6)))))
def aH0 (xs : Array Value) (d : Int) : AH := ⟨1, 1, [(0, strm xs d)]⟩
def aH1 (xs : Array Value) (d : Int) (cs : List Value) : AH := ⟨2, 2, [(0, strm xs d), (1, .cells ⟨cs⟩ 39 (0, 0))]⟩
def aV (out : Value) (at_ n i : Int) : List Value := [.pointer (some ⟨0, 0, none⟩), out, .int .i64 at_, .int .i64 n, .int .i64 i]
theorem asN (xs : Array Value) (d at_ n i : Int) (B : List Value → AH → Prop) (Q : AExit → List Value → AH → Prop) :
    once 1 Tryz.prog SG [] noHooks 900 65 [0, 5, 6, 10, 11] [1] [0, 5] [1] (oneLoop (codeOf Tryz.f8) 4) (aV (.slice none 0 0) at_ n i) (aH0 xs d) B Q =
      bif decide (i < n) then askD xs d fun w c l => stepD xs (d + 1 + 1 + 1) at_ fun a => NoNames (.cells ⟨akC (at_, w, c, l)⟩ 39 (0, 0)) ∧ B (aV (.slice (some ⟨1, 0, none⟩) 1 1) a n (IntKind.i64.wrap (i + 1))) (aH1 xs (d + 1 + 1 + 1 + 1) (akC (at_, w, c, l)))
      else Q (.exit 0) [.pointer (some ⟨0, 0, none⟩), .slice none 0 0] (aH0 xs d) := by kernel_rfl
theorem asB (xs : Array Value) (d at_ n i : Int) (cs : List Value) (m : Nat) (B : List Value → AH → Prop) (Q : AExit → List Value → AH → Prop) :
    once 1 Tryz.prog SG [] noHooks 900 65 [0, 5, 6, 10, 11] [1] [0, 5] [1] (oneLoop (codeOf Tryz.f8) 4) (aV (.slice (some ⟨1, 0, none⟩) m m) at_ n i) (aH1 xs d cs) B Q =
      bif decide (i < n) then askD xs d fun w c l => bif (m + 1).ble m then False else bif (m + 1).ble 9223372036854775807 && ((m + 1) * 40).ble 140737488355328 then bif (0 + m * 4).ble (Array.mk cs).size && true && true then
        stepD xs (d + 1 + 1 + 1) at_ fun a => NoNames (.cells ⟨List.take (m * 4) (List.drop 0 (Array.mk cs).toList) ++ akC (at_, w, c, l)⟩ 39 (0, 0)) ∧
          B (aV (.slice (some ⟨1, 0, none⟩) (m + 1) (m + 1)) a n (IntKind.i64.wrap (i + 1))) (aH1 xs (d + 1 + 1 + 1 + 1) (List.take (m * 4) (List.drop 0 (Array.mk cs).toList) ++ akC (at_, w, c, l))) else False else False
      else NoNames (.cells ⟨cs⟩ 39 (0, 0)) ∧ Q (.exit 0) [.pointer (some ⟨0, 0, none⟩), .slice (some ⟨1, 0, none⟩) m m] (aH1 xs d cs) := by kernel_rfl
/-! the odd one -/
def odP (lo hi : Int) : List Value := [.int .i64 (lo - 1), .int .i64 (hi + 1), .int .i64 lo, .int .i64 hi, .int .i64 (-1099511627776), .int .i64 1099511627776]
noncomputable def oddD (xs : Array Value) (d lo hi : Int) (K : Int → Int → Prop) : Prop :=
  dr xs d (bif nextR xs d 12 == 0 then dr xs (d + 1) (rg (nextR xs (d + 1) 6) 6 6 (K (gI (odP lo hi) (nextR xs (d + 1) 6)) (d + 1 + 1))) else dr xs (d + 1) (K (IntKind.i64.wrap (lo + nextR xs (d + 1) (hi - lo + 1))) (d + 1 + 1)))
noncomputable def drk (xs : Array Value) (d : Int) (k : Nat) (X : Prop) : Prop := bif decide (0 ≤ d) && decide (d ≤ 1000000) && decide (1 ≤ (k : Int)) && decide ((k : Int) ≤ 1000000000000) && true && allInts xs then X else False
def atL (t : Int) : List Value := [.int .i64 t, .int .i64 (-1), .int .i64 345686400000, .int .i64 0]
def woL : List Value := [.string annB, .string ⟨#[]⟩, .string ⟨#[65]⟩]
def putA (cs : List Value) (o : Nat) (t : Int) (w : ByteArray) (c l : Int) : Array Value := ((((Array.mk cs).setIfInBounds (o + 0) (.int .i64 t)).setIfInBounds (o + 1) (.string w)).setIfInBounds (o + 2) (.int .i64 c)).setIfInBounds (o + 3) (.int .i64 l)
noncomputable def putT (cs : List Value) (o : Nat) (t : Int) (w : ByteArray) (c l : Int) (X : Array Value → Prop) : Prop :=
  bif true && Nat.ble (o + 0 + 1) (Array.mk cs).size && true && true then bif true && Nat.ble (o + 1 + 1) ((Array.mk cs).setIfInBounds (o + 0) (.int .i64 t)).size && true && true then
  bif true && Nat.ble (o + 2 + 1) (((Array.mk cs).setIfInBounds (o + 0) (.int .i64 t)).setIfInBounds (o + 1) (.string w)).size && true && true then
  bif true && Nat.ble (o + 3 + 1) ((((Array.mk cs).setIfInBounds (o + 0) (.int .i64 t)).setIfInBounds (o + 1) (.string w)).setIfInBounds (o + 2) (.int .i64 c)).size && true && true then X (putA cs o t w c l) else False else False else False else False
noncomputable def frz (k : Nat) (cs : List Value) (Q : Value → Prop) : Prop :=
  bif ((Nat.beq 1 1 && Nat.beq k k && Nat.beq k k) && ((Nat.beq 1 1 && Nat.beq k k && Nat.beq k k) && ((Nat.beq 1 1 && Nat.beq k k && Nat.beq k k) && true))) && cs.all p1 && Nat.ble k k && Nat.ble (k * 4) cs.length && true then Q (fz ⟨chunk true 4 k cs⟩) else False
noncomputable def oneD (xs : Array Value) (e : Int) (k : Nat) (cs : List Value) (Q : Value → Option Obj → Prop) (r : Int) : Prop :=
  bif decide (0 ≤ r) && decide (r < (k : Int)) then bif Nat.blt (0 + r.toNat * 4) (Array.mk cs).size then (Array.mk cs).toList.getD (0 + r.toNat * 4) undef = .int .i64 (toInt ((Array.mk cs).toList.getD (0 + r.toNat * 4) undef)) ∧
    dr xs (e + 1 + 1) (rg (nextR xs (e + 1 + 1) 4) 4 4 (dr xs (e + 1 + 1 + 1) (rg (nextR xs (e + 1 + 1 + 1) 3) 3 3 (oddD xs (e + 1 + 1 + 1 + 1) 1 1000000000 fun c e1 => oddD xs e1 0 345686400000 fun l e2 =>
      putT cs (0 + r.toNat * 4) (gI (atL (toInt ((Array.mk cs).toList.getD (0 + r.toNat * 4) undef))) (nextR xs (e + 1 + 1) 4)) (gS woL (nextR xs (e + 1 + 1 + 1) 3)) c l fun a => frz k a.toList fun v => Q v (some (strm xs e2)))))) else False else False
theorem asK (xs : Array Value) (d e n : Int) (cs : List Value) (k : Nat) (C : List Value → AH → Prop) (Q : Value → Option Obj → Prop) :
    tfn Tryz.prog SG [] (hookOr (hook1 4 (hookLS 1 65 [0, 5, 6, 10, 11] [1] [0, 5] (fun vals h K => C vals h ∧ K (.exit 0) [.pointer (some ⟨0, 0, none⟩), .slice (some ⟨1, 0, none⟩) k k] (aH1 xs e cs)))) (hookOr (ghost1 8 (mark1G 5)) (ghost1 11 (freezeG 65 true 4 [4, 5, 64])))) 3000 [] Tryz.f8 [.pointer (some ⟨0, 0, none⟩), .int .i64 n] (aH0 xs d) (fun v h => Q v (h.get 0)) =
      dr xs d (C (aV (.slice none 0 0) (nextR xs d 30) n 0) (aH0 xs (d + 1)) ∧ bif decide ((k : Int) > 0) then dr xs e (bif (bif true then nextR xs e 20 == 0 else false) then drk xs (e + 1) k (oneD xs e k cs Q (nextR xs (e + 1) (k : Int)))
        else frz k cs fun v => Q v (some (strm xs (e + 1)))) else frz k cs fun v => Q v (some (strm xs e))) := by kernel_rfl
theorem asE (xs : Array Value) (d e n : Int) (C : List Value → AH → Prop) (Q : Value → Option Obj → Prop) :
    tfn Tryz.prog SG [] (hookOr (hook1 4 (hookLS 1 65 [0, 5, 6, 10, 11] [1] [0, 5] (fun vals h K => C vals h ∧ K (.exit 0) [.pointer (some ⟨0, 0, none⟩), .slice none 0 0] (aH0 xs e)))) (hookOr (ghost1 8 (mark1G 5)) (ghost1 11 (freezeG 65 true 4 [4, 5, 64])))) 3000 [] Tryz.f8 [.pointer (some ⟨0, 0, none⟩), .int .i64 n] (aH0 xs d) (fun v h => Q v (h.get 0)) =
      dr xs d (C (aV (.slice none 0 0) (nextR xs d 30) n 0) (aH0 xs (d + 1)) ∧ Q (fz ⟨[]⟩) (some (strm xs e))) := by kernel_rfl
theorem someAS : Tryz.f8.body.isSome = true := by kernel_rfl
theorem ridAS : ((loopsOf (codeOf Tryz.f8)).all fun b => match rid b with | some j => Nat.blt j 1000000 | none => true) = true := by kernel_rfl
theorem oneAS : (loopAt (codeOf Tryz.f8) 4).length = 1 := by kernel_rfl
/-! what is wrong with an ask -/
def frT (key : Bool) (t c l : Int) (Q : Value → Prop) : Prop :=
  bif decide (0 ≤ t) then bif !(bif true then decide (t ≤ 345686399999) else false) then Q (.int .i64 1) else bif key then
    bif decide (1 ≤ c) then bif !(bif true then decide (c ≤ 1000000000) else false) then Q (.int .i64 1) else
      bif decide (0 ≤ l) then bif (bif false then true else !(bif true then decide (l ≤ 345686400000) else false)) then Q (.int .i64 1) else Q (.int .i64 0) else Q (.int .i64 1)
    else Q (.int .i64 1) else Q (.int .i64 5) else Q (.int .i64 1)
theorem fr0 (t c l : Int) (Q : Value → Prop) : ffn Tryz.prog SI [] 3000 [] Tryz.f32 [.agg ⟨[.int .i64 t, .string annB, .int .i64 c, .int .i64 l]⟩] Ev.h0 (fun v _ => Q v) = frT true t c l Q := by kernel_rfl
theorem fr1 (t c l : Int) (Q : Value → Prop) : ffn Tryz.prog SI [] 3000 [] Tryz.f32 [.agg ⟨[.int .i64 t, .string bobB, .int .i64 c, .int .i64 l]⟩] Ev.h0 (fun v _ => Q v) = frT true t c l Q := by kernel_rfl
theorem fr2 (t c l : Int) (Q : Value → Prop) : ffn Tryz.prog SI [] 3000 [] Tryz.f32 [.agg ⟨[.int .i64 t, .string ⟨#[]⟩, .int .i64 c, .int .i64 l]⟩] Ev.h0 (fun v _ => Q v) = frT false t c l Q := by kernel_rfl
theorem fr3 (t c l : Int) (Q : Value → Prop) : ffn Tryz.prog SI [] 3000 [] Tryz.f32 [.agg ⟨[.int .i64 t, .string ⟨#[65]⟩, .int .i64 c, .int .i64 l]⟩] Ev.h0 (fun v _ => Q v) = frT false t c l Q := by kernel_rfl
theorem someQF : Tryz.f32.body.isSome = true := by kernel_rfl

/-! in plain words -/
theorem gS_in {r : Int} (h0 : 0 ≤ r) (h1 : r < 3) : gS whoL r = annB ∨ gS whoL r = bobB := by
  have : r = 0 ∨ r = 1 ∨ r = 2 := by omega
  rcases this with rfl | rfl | rfl
  · exact .inl rfl
  · exact .inl rfl
  · exact .inr rfl
theorem co_in {r : Int} (h0 : 0 ≤ r) (h1 : r < 6) : 1 ≤ gI coL r ∧ gI coL r ≤ 6 := by
  have : r = 0 ∨ r = 1 ∨ r = 2 ∨ r = 3 ∨ r = 4 ∨ r = 5 := by omega
  rcases this with rfl | rfl | rfl | rfl | rfl | rfl <;> decide +kernel
theorem lo_in {r : Int} (h0 : 0 ≤ r) (h1 : r < 4) : 0 ≤ gI loL r ∧ gI loL r ≤ 100 := by
  have : r = 0 ∨ r = 1 ∨ r = 2 ∨ r = 3 := by omega
  rcases this with rfl | rfl | rfl | rfl <;> decide +kernel
theorem st_in {r : Int} (h0 : 0 ≤ r) (h1 : r < 6) : 0 ≤ gI stL r ∧ gI stL r ≤ 40 := by
  have : r = 0 ∨ r = 1 ∨ r = 2 ∨ r = 3 ∨ r = 4 ∨ r = 5 := by omega
  rcases this with rfl | rfl | rfl | rfl | rfl | rfl <;> decide +kernel
/-- An ask's name is one of four. -/
def whoQ : List ByteArray := [annB, bobB, ⟨#[]⟩, ⟨#[65]⟩]
theorem askD_ex (zs : List Int) {d : Int} (h0 : 0 ≤ d) (h1 : d ≤ 100000) : ∃ w c l, w ∈ whoQ ∧ ∀ K : ByteArray → Int → Int → Prop, K w c l → askD (intsV zs) d K := by
  have b0 := nx_in zs (m := 3) h0 (by omega) (by omega) (by omega)
  refine ⟨gS whoL (nextR (intsV zs) d 3), _, _, ?_, fun K hK => dr_mk h0 (by omega) (rg_mk h0 (by omega) rfl (by decide) (dr_mk (by omega) (by omega) (rg_mk (by omega) (by omega) rfl (by decide) (dr_mk (by omega) (by omega) (rg_mk (by omega) (by omega) rfl (by decide) hK)))))⟩
  rcases gS_in b0.1 b0.2 with q | q <;> rw [q] <;> simp [whoQ]
theorem stepD_ex (zs : List Int) {d at_ : Int} (h0 : 0 ≤ d) (h1 : d ≤ 100000) (ha : 0 ≤ at_) (hb : at_ ≤ 100000) : ∃ a, at_ ≤ a ∧ a ≤ at_ + 40 ∧ ∀ L : Int → Prop, L a → stepD (intsV zs) d at_ L := by
  have b0 := nx_in zs (m := 6) h0 (by omega) (by omega) (by omega)
  have hs := st_in b0.1 b0.2
  have hw : IntKind.i64.wrap (at_ + gI stL (nextR (intsV zs) d 6)) = at_ + gI stL (nextR (intsV zs) d 6) := wrap_id _ (by omega) (by omega)
  exact ⟨at_ + gI stL (nextR (intsV zs) d 6), by omega, by omega, fun L hL => dr_mk h0 (by omega) (rg_mk h0 (by omega) rfl (by decide) (by rw [hw]; exact hL))⟩
theorem akC_len : ∀ L : List A4, (L.flatMap akC).length = L.length * 4
  | [] => rfl
  | t :: l => by
    rw [List.flatMap_cons, List.length_append, akC_len l, List.length_cons]
    show 4 + _ = _
    omega
theorem p1_akC {L : List A4} : ∀ v ∈ L.flatMap akC, p1 v = true := by
  intro v hv
  obtain ⟨t, _, h⟩ := List.mem_flatMap.1 hv
  simp only [akC, List.mem_cons, List.not_mem_nil, or_false] at h
  rcases h with rfl | rfl | rfl | rfl <;> rfl
theorem nnK (L : List A4) (t : TypeId) (fr : Nat × Nat) : NoNames (.cells ⟨L.flatMap akC⟩ t fr) := fun v hv => p1_akC v (by simpa using hv)
theorem chunk_akV : ∀ L : List A4, chunk true 4 L.length (L.flatMap akC) = L.map akV
  | [] => rfl
  | t :: l => by
    have := chunk_akV l
    simp only [List.length_cons, List.flatMap_cons, List.map_cons, chunk]
    rw [show (akC t ++ l.flatMap akC).drop 4 = l.flatMap akC from rfl, this]
    rfl
theorem take_akC (L : List A4) : List.take (L.length * 4) (List.drop 0 (Array.mk (L.flatMap akC)).toList) = L.flatMap akC := by
  have := akC_len L
  rw [List.drop_zero]
  exact List.take_of_length_le (by show (L.flatMap akC).length ≤ _; omega)
/-- An ask by one of four names, early or at the end of time. -/
def okW (a : A4) : Prop := a.2.1 ∈ whoQ ∧ (a.1 ≤ 5000 ∨ a.1 = 345686400000)
def outS : List A4 → Value
  | [] => .slice none 0 0
  | t :: l => .slice (some ⟨1, 0, none⟩) (t :: l).length (t :: l).length
def outH (xs : Array Value) (d : Int) : List A4 → AH
  | [] => aH0 xs d
  | t :: l => aH1 xs d ((t :: l).flatMap akC)
theorem as_loop (zs : List Int) {n : Nat} (hn : n ≤ 100) : ∀ (r i : Nat) (O : List A4) (at_ d : Int), i + r = n → O.length = i → (∀ a ∈ O, okW a) → 0 ≤ at_ → at_ ≤ 1000 + 40 * i → 0 ≤ d → d ≤ 1000 + 4 * i →
    ∃ (O' : List A4) (d' : Int), O'.length = n ∧ (∀ a ∈ O', okW a) ∧ 0 ≤ d' ∧ d' ≤ 2000 ∧ ∀ K : AExit → List Value → AH → Prop,
      K (.exit 0) [.pointer (some ⟨0, 0, none⟩), outS O'] (outH (intsV zs) d' O') → iter 1 Tryz.prog SG [] noHooks 900 65 [0, 5, 6, 10, 11] [1] [0, 5] [1] (oneLoop (codeOf Tryz.f8) 4) (r + 1) (aV (outS O) at_ (n : Int) (i : Int)) (outH (intsV zs) d O) K := by
  intro r
  induction r with
  | zero =>
    intro i O at_ d h1 h2 h3 h5 h6 h7 h8
    refine ⟨O, d, by omega, h3, h7, by omega, fun K hK => ?_⟩
    cases O with
    | nil => exact (asN _ _ _ _ _ _ K).mpr (pick_f (by simp; omega) hK)
    | cons u o => exact (asB _ _ _ _ _ _ _ _ K).mpr (pick_f (by simp; omega) ⟨nnK _ _ _, hK⟩)
  | succ r ih =>
    intro i O at_ d h1 h2 h3 h5 h6 h7 h8
    obtain ⟨w, c, l, x0, x1⟩ := askD_ex zs h7 (by omega)
    obtain ⟨a, y1, y2, y3⟩ := stepD_ex zs (d := d + 1 + 1 + 1) (at_ := at_) (by omega) (by omega) h5 (by omega)
    obtain ⟨O', d', z1, z2, z3, z4, z5⟩ := ih (i + 1) (O ++ [(at_, w, c, l)]) a (d + 1 + 1 + 1 + 1) (by omega) (by simp; omega) (by
      intro b hb
      rcases List.mem_append.1 hb with q | q
      · exact h3 b q
      · rw [List.mem_singleton.1 q]; exact ⟨x0, .inl (by show at_ ≤ 5000; omega)⟩) (by omega) (by omega) (by omega) (by omega)
    refine ⟨O', d', z1, z2, z3, z4, fun K hK => ?_⟩
    have hK := z5 K hK
    cases O with
    | nil =>
      refine (asN _ _ _ _ _ _ K).mpr (pick_t (decide_eq_true (by omega)) (x1 _ (y3 _ ⟨nnK [(at_, w, c, l)] _ _, ?_⟩)))
      rw [wrap1 (by omega)]; exact hK
    | cons u o =>
      have hsz : (Array.mk ((u :: o).flatMap akC)).size = (u :: o).length * 4 := akC_len (u :: o)
      refine (asB _ _ _ _ _ _ _ _ K).mpr (pick_t (decide_eq_true (by omega)) (x1 _ (pick_f (ble_ss _) (need_mk ?_ (need_mk ?_ (y3 _ ?_))))))
      · rw [Bool.and_eq_true, Nat.ble_eq, Nat.ble_eq]; omega
      · rw [hsz, Nat.ble_eq_true_of_le (by omega)]; rfl
      · have e1 : (u :: o).flatMap akC ++ akC (at_, w, c, l) = ((u :: o) ++ [(at_, w, c, l)]).flatMap akC := by simp
        rw [take_akC, e1, wrap1 (by omega)]
        refine ⟨nnK _ _ _, ?_⟩
        have e3 : outS ((u :: o) ++ [(at_, w, c, l)]) = .slice (some ⟨1, 0, none⟩) ((u :: o).length + 1) ((u :: o).length + 1) := by
          show Value.slice (some ⟨1, 0, none⟩) ((u :: o) ++ [(at_, w, c, l)]).length ((u :: o) ++ [(at_, w, c, l)]).length = _
          rw [List.length_append]; rfl
        rw [e3] at hK
        exact hK
/-! the odd one -/
theorem oddD_ex (zs : List Int) {d lo hi : Int} (h0 : 0 ≤ d) (h1 : d ≤ 100000) (hl : 0 ≤ hi - lo) (hh : hi - lo + 1 ≤ 1000000000000) : ∃ x, ∀ K : Int → Int → Prop, K x (d + 1 + 1) → oddD (intsV zs) d lo hi K := by
  cases q : (nextR (intsV zs) d 12 == 0) with
  | true => exact ⟨_, fun K hK => dr_mk h0 (by omega) (pick_t q (dr_mk (by omega) (by omega) (rg_mk (by omega) (by omega) rfl (by decide) hK)))⟩
  | false => exact ⟨_, fun K hK => dr_mk h0 (by omega) (pick_f q (dr_mk (by omega) (by omega) hK))⟩
theorem setA_flat : ∀ {L : List A4} {j : Nat} (b : A4), j < L.length → (putA (L.flatMap akC) (j * 4) b.1 b.2.1 b.2.2.1 b.2.2.2).toList = (L.set j b).flatMap akC
  | a :: L, 0, b, _ => by
    obtain ⟨t, w, c, l⟩ := b
    rfl
  | a :: L, j + 1, b, h => by
    have := setA_flat (L := L) (j := j) b (by simpa using h)
    rw [List.set_cons_succ, List.flatMap_cons, List.flatMap_cons, ← this]
    have e : (j + 1) * 4 = j * 4 + 4 := by omega
    unfold putA
    simp only [Array.toList_setIfInBounds, e]
    rw [show j * 4 + 4 + 0 = (j * 4 + 0) + 4 by omega, show j * 4 + 4 + 1 = (j * 4 + 1) + 4 by omega, show j * 4 + 4 + 2 = (j * 4 + 2) + 4 by omega, show j * 4 + 4 + 3 = (j * 4 + 3) + 4 by omega]
    rfl
theorem get_at : ∀ {L : List A4} {j : Nat} (h : j < L.length), (L.flatMap akC).getD (j * 4) undef = .int .i64 (L[j]).1
  | a :: L, 0, _ => rfl
  | a :: L, j + 1, h => by
    have := get_at (L := L) (j := j) (by simpa using h)
    rw [Nat.succ_mul]
    exact this
theorem frz_mk {L : List A4} {Q : Value → Prop} (h : Q (fz ⟨L.map akV⟩)) : frz L.length (L.flatMap akC) Q := by
  have hl := akC_len L
  unfold frz
  refine need_mk ?_ (by rw [chunk_akV]; exact h)
  rw [Nat.beq_refl 1, Nat.beq_refl L.length, Nat.ble_eq_true_of_le (Nat.le_refl L.length), hl, Nat.ble_eq_true_of_le (Nat.le_refl _), List.all_eq_true.2 p1_akC]
  rfl
theorem putT_mk {L : List A4} {j : Nat} (hj : j < L.length) {t c l : Int} {w : ByteArray} {X : Array Value → Prop} (h : X (putA (L.flatMap akC) (j * 4) t w c l)) : putT (L.flatMap akC) (j * 4) t w c l X := by
  have hl := akC_len L
  have hs : (Array.mk (L.flatMap akC)).size = L.length * 4 := hl
  unfold putT
  refine need_mk ?_ (need_mk ?_ (need_mk ?_ (need_mk ?_ h)))
  · rw [hs, Nat.ble_eq_true_of_le (by omega)]; rfl
  · rw [Array.size_setIfInBounds, hs, Nat.ble_eq_true_of_le (by omega)]; rfl
  · rw [Array.size_setIfInBounds, Array.size_setIfInBounds, hs, Nat.ble_eq_true_of_le (by omega)]; rfl
  · rw [Array.size_setIfInBounds, Array.size_setIfInBounds, Array.size_setIfInBounds, hs, Nat.ble_eq_true_of_le (by omega)]; rfl
/-- What is handed out: asks by some of four names. -/
theorem as_ex (zs : List Int) {n : Nat} (hn : n ≤ 100) {d : Int} (h0 : 0 ≤ d) (h1 : d ≤ 100) : ∃ (L : List A4) (d' : Int), L.length = n ∧ (∀ a ∈ L, okW a) ∧ 0 ≤ d' ∧ d' ≤ 3000 ∧
    FnOK 1 Tryz.prog 8 ⟨[.pointer (some ⟨0, 0, none⟩), .int .i64 (n : Int)]⟩ (Ev.h1 (strm (intsV zs) d)) (fun v g => v = fz ⟨L.map akV⟩ ∧ g.get 0 = some (strm (intsV zs) d')) := by
  have b0 := nx_in zs (m := 30) h0 (by omega) (by omega) (by omega)
  obtain ⟨O, e, x1, x2, x3, x4, x5⟩ := as_loop zs hn n 0 [] (nextR (intsV zs) d 30) (d + 1) (by omega) rfl (fun a ha => by cases ha) b0.1 (by omega) (by omega) (by omega)
  have hsp : LSpec 1 Tryz.prog 65 (oneLoop (codeOf Tryz.f8) 4) (hookLS 1 65 [0, 5, 6, 10, 11] [1] [0, 5] (fun vals h K => (vals = aV (.slice none 0 0) (nextR (intsV zs) d 30) (n : Int) 0 ∧ h = aH0 (intsV zs) (d + 1)) ∧
      K (.exit 0) [.pointer (some ⟨0, 0, none⟩), outS O] (outH (intsV zs) e O))) := by
    refine hook_ok (G := []) (L := noHooks) (f := 900) (sameX := [1]) SG_ok mixed (by decide) (loops_none _ _ _ _) ?_
    rintro vals h K ⟨⟨rfl, rfl⟩, hK⟩
    exact ⟨_, x5 K hK⟩
  have hlo := fun {C : LS} (hC : LSpec 1 Tryz.prog 65 (oneLoop (codeOf Tryz.f8) 4) C) => loops_or (loops_one oneAS hC) (loops_or (ghosts_one (i := 8) ridAS (mark1G_ok 1 Tryz.prog 65 5)) (ghosts_one (i := 11) ridAS (freezeG_ok 1 Tryz.prog 65 true 4 [4, 5, 64])))
  cases O with
  | nil =>
    refine ⟨[], e, x1, x2, x3, by omega, ?_⟩
    exact FnOK.ttree SG_ok mixed Tryz.func8 someAS (hlo hsp) (asE (intsV zs) d e n _ (fun v o => v = fz ⟨([] : List A4).map akV⟩ ∧ o = some (strm (intsV zs) e))) (dr_mk h0 (by omega) ⟨⟨rfl, rfl⟩, rfl, rfl⟩)
  | cons u o =>
    have hk : 0 < (u :: o).length := by simp
    have hlen := akC_len (u :: o)
    cases q : (nextR (intsV zs) e 20 == 0) with
    | false =>
      refine ⟨u :: o, e + 1, x1, x2, by omega, by omega, ?_⟩
      refine FnOK.ttree SG_ok mixed Tryz.func8 someAS (hlo hsp) (asK (intsV zs) d e n _ _ _ (fun v o2 => v = fz ⟨(u :: o).map akV⟩ ∧ o2 = some (strm (intsV zs) (e + 1)))) (dr_mk h0 (by omega) ⟨⟨rfl, rfl⟩, ?_⟩)
      exact pick_t (decide_eq_true (by omega)) (dr_mk x3 (by omega) (pick_f q (frz_mk ⟨rfl, rfl⟩)))
    | true =>
      have b1 := nx_in zs (m := ((u :: o).length : Int)) (d := e + 1) (by omega) (by omega) (by omega) (by omega)
      obtain ⟨j, hj⟩ : ∃ j : Nat, nextR (intsV zs) (e + 1) ((u :: o).length : Int) = (j : Int) := ⟨_, (Int.toNat_of_nonneg b1.1).symm⟩
      rw [hj] at b1
      have hjl : j < (u :: o).length := by omega
      have hjl2 : j < o.length + 1 := by simpa using hjl
      have hol : o.length + 1 = n := by simpa using x1
      obtain ⟨c, hc⟩ := oddD_ex zs (d := e + 1 + 1 + 1 + 1) (lo := 1) (hi := 1000000000) (by omega) (by omega) (by omega) (by omega)
      obtain ⟨l, hl⟩ := oddD_ex zs (d := e + 1 + 1 + 1 + 1 + 1 + 1) (lo := 0) (hi := 345686400000) (by omega) (by omega) (by omega) (by omega)
      refine ⟨(u :: o).set j (gI (atL ((u :: o)[j]).1) (nextR (intsV zs) (e + 1 + 1) 4), gS woL (nextR (intsV zs) (e + 1 + 1 + 1) 3), c, l), e + 1 + 1 + 1 + 1 + 1 + 1 + 1 + 1, by rw [List.length_set]; exact x1, ?_, by omega, by omega, ?_⟩
      · intro a ha
        rcases List.mem_or_eq_of_mem_set ha with h | h
        · exact x2 a h
        · rw [h]
          refine ⟨?_, ?_⟩
          rotate_left
          · have b2 := nx_in zs (m := 4) (d := e + 1 + 1) (by omega) (by omega) (by omega) (by omega)
            have hx := (x2 _ (List.getElem_mem hjl)).2
            have : nextR (intsV zs) (e + 1 + 1) 4 = 0 ∨ nextR (intsV zs) (e + 1 + 1) 4 = 1 ∨ nextR (intsV zs) (e + 1 + 1) 4 = 2 ∨ nextR (intsV zs) (e + 1 + 1) 4 = 3 := by omega
            simp only
            rcases this with q | q | q | q <;> rw [q]
            · exact hx
            · exact .inl (show (-1 : Int) ≤ 5000 by omega)
            · exact .inr rfl
            · exact .inl (show (0 : Int) ≤ 5000 by omega)
          have b2 := nx_in zs (m := 3) (d := e + 1 + 1 + 1) (by omega) (by omega) (by omega) (by omega)
          have : nextR (intsV zs) (e + 1 + 1 + 1) 3 = 0 ∨ nextR (intsV zs) (e + 1 + 1 + 1) 3 = 1 ∨ nextR (intsV zs) (e + 1 + 1 + 1) 3 = 2 := by omega
          rcases this with q | q | q <;> rw [q]
          · exact List.mem_cons_self
          · exact List.mem_cons_of_mem _ (List.mem_cons_of_mem _ List.mem_cons_self)
          · exact List.mem_cons_of_mem _ (List.mem_cons_of_mem _ (List.mem_cons_of_mem _ List.mem_cons_self))
      · refine FnOK.ttree SG_ok mixed Tryz.func8 someAS (hlo hsp) (asK (intsV zs) d e n _ _ _ (fun v o2 => v = fz ⟨((u :: o).set j (gI (atL ((u :: o)[j]).1) (nextR (intsV zs) (e + 1 + 1) 4), gS woL (nextR (intsV zs) (e + 1 + 1 + 1) 3), c, l)).map akV⟩ ∧ o2 = some (strm (intsV zs) (e + 1 + 1 + 1 + 1 + 1 + 1 + 1 + 1)))) (dr_mk h0 (by omega) ⟨⟨rfl, rfl⟩, ?_⟩)
        refine pick_t (decide_eq_true (by omega)) (dr_mk x3 (by omega) (pick_t q ?_))
        refine need_mk (by rw [allInts_intsV]; simp; omega) ?_
        rw [hj]
        have eg := get_at hjl
        have eg2 : (Array.mk ((u :: o).flatMap akC)).toList.getD (0 + (j : Int).toNat * 4) undef = .int .i64 ((u :: o)[j]).1 := by rw [Nat.zero_add]; exact eg
        unfold oneD
        rw [eg2]
        refine need_mk (by simp; omega) (need_mk (by rw [Nat.blt, Nat.ble_eq, show (Array.mk ((u :: o).flatMap akC)).size = _ from hlen]; simp only [Int.toNat_natCast]; omega) ⟨rfl, ?_⟩)
        refine dr_mk (by omega) (by omega) (rg_mk (by omega) (by omega) rfl (by decide) (dr_mk (by omega) (by omega) (rg_mk (by omega) (by omega) rfl (by decide) (hc _ (hl _ ?_)))))
        rw [Int.toNat_natCast, Nat.zero_add]
        refine putT_mk hjl ?_
        rw [setA_flat (_, _, c, l) hjl]
        have hset : ((u :: o).set j (gI (atL ((u :: o)[j]).1) (nextR (intsV zs) (e + 1 + 1) 4), gS woL (nextR (intsV zs) (e + 1 + 1 + 1) 3), c, l)).length = (u :: o).length := List.length_set
        have := frz_mk (L := (u :: o).set j (gI (atL ((u :: o)[j]).1) (nextR (intsV zs) (e + 1 + 1) 4), gS woL (nextR (intsV zs) (e + 1 + 1 + 1) 3), c, l)) (Q := fun v => v = fz ⟨((u :: o).set j (gI (atL ((u :: o)[j]).1) (nextR (intsV zs) (e + 1 + 1) 4), gS woL (nextR (intsV zs) (e + 1 + 1 + 1) 3), c, l)).map akV⟩ ∧ some (strm (intsV zs) (e + 1 + 1 + 1 + 1 + 1 + 1 + 1 + 1)) = some (strm (intsV zs) (e + 1 + 1 + 1 + 1 + 1 + 1 + 1 + 1))) ⟨rfl, rfl⟩
        rw [hset] at this
        exact this
end Go.Proofs.YtbigicdojndnjaaGreatDoor
