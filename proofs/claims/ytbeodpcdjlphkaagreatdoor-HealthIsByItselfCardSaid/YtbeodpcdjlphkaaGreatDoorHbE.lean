/-
  The health of instances: probes as they are drawn.
-/
import Derived.Test.YtbeodpcdjlphkaaGreatDoorHbD
namespace Go.Proofs.YtbeodpcdjlphkaaGreatDoor
open Go.Ev Go.RowKit HealthLaw

theorem SP1_ok : SP1.cfg.OK Tryz.prog := (spNext_ok []).cfg
def gI (l : List Value) (r : Int) : Int := toInt (l.getD (0 + r.toNat * 1) (Value.tuple { toList := [] }))
def gS (l : List Value) (r : Int) : ByteArray := toStr (l.getD (0 + r.toNat * 1) (Value.tuple { toList := [] }))
def stL : List Value := [.int .i64 0, .int .i64 1, .int .i64 5, .int .i64 10]
def odL : List Value := [.int .i64 (IntKind.i64.wrap (0 - 1)), .int .i64 (IntKind.i64.wrap (50 + 1)), .int .i64 0, .int .i64 50, .int .i64 (-1099511627776), .int .i64 1099511627776]
def k2L : List Value := [.string ⟨#[]⟩, .string ⟨#[110, 111, 110, 101]⟩]
def k4L : List Value := [.string ⟨#[105, 97]⟩, .string ⟨#[105, 98]⟩, .string ⟨#[105, 99]⟩, .string ⟨#[105, 100]⟩]
noncomputable def dr (xs : Array Value) (d : Int) (X : Prop) : Prop := bif decide (0 ≤ d) && decide (d ≤ 1000000) && true && true && true && allInts xs then X else False
noncomputable def rg (r m : Int) (k : Nat) (X : Prop) : Prop := bif decide (0 ≤ r) && decide (r < m) then bif (0 + r.toNat * 1).blt k then X else False else False
noncomputable def pbK2 (xs : Array Value) (at_ : Int) (key : ByteArray) (g : Bool) (e : Int) (L : Int → ByteArray → Bool → Int → Prop) : Prop :=
  dr xs e (bif nextR xs e 80 == 0 then dr xs (e + 1) (bif nextR xs (e + 1) 12 == 0 then dr xs (e + 1 + 1) (rg (nextR xs (e + 1 + 1) 6) 6 6 (L (gI odL (nextR xs (e + 1 + 1) 6)) key g (e + 1 + 1 + 1)))
    else dr xs (e + 1 + 1) (L (IntKind.i64.wrap (0 + nextR xs (e + 1 + 1) 51)) key g (e + 1 + 1 + 1))) else L at_ key g (e + 1))
noncomputable def elV (vs : List Value) (r : Int) : Value := (Array.mk vs).toList.getD r.toNat undef
noncomputable def pbK1 (xs : Array Value) (vs : List Value) (at_ : Int) (key : ByteArray) (e : Int) (L : Int → ByteArray → Bool → Int → Prop) : Prop :=
  dr xs e (bif decide (((Array.mk vs).size : Int) > 0) then dr xs (e + 1) (bif !(nextR xs (e + 1) 60 == 0) then
      bif decide (0 ≤ e + 1 + 1) && decide (e + 1 + 1 ≤ 1000000) && decide (1 ≤ ((Array.mk vs).size : Int)) && decide (((Array.mk vs).size : Int) ≤ 1000000000) && true && allInts xs then
        bif decide (0 ≤ nextR xs (e + 1 + 1) ((Array.mk vs).size : Int)) && decide (nextR xs (e + 1 + 1) ((Array.mk vs).size : Int) < ((Array.mk vs).size : Int)) && true then
          (Array.mk vs).toList.getD (nextR xs (e + 1 + 1) ((Array.mk vs).size : Int)).toNat (Value.tuple { toList := [] }) = .agg ⟨[.string (toStr ((elV vs (nextR xs (e + 1 + 1) ((Array.mk vs).size : Int))).cells.toList.getD 0 (Value.tuple { toList := [] }))), .int .i64 (toInt ((elV vs (nextR xs (e + 1 + 1) ((Array.mk vs).size : Int))).cells.toList.getD 1 (Value.tuple { toList := [] })))]⟩ ∧
          pbK2 xs at_ (toStr ((elV vs (nextR xs (e + 1 + 1) ((Array.mk vs).size : Int))).cells.toList.getD 0 (Value.tuple { toList := [] }))) (nextR xs e 2 == 0) (e + 1 + 1 + 1) L
        else False else False
      else pbK2 xs at_ key (nextR xs e 2 == 0) (e + 1 + 1) L) else pbK2 xs at_ key (nextR xs e 2 == 0) (e + 1) L)
noncomputable def pbT (xs : Array Value) (vs : List Value) (at_ d : Int) (L : Int → ByteArray → Bool → Int → Prop) : Prop :=
  dr xs d (rg (nextR xs d 4) 4 4 (dr xs (d + 1) (bif nextR xs (d + 1) 40 == 0 then
      dr xs (d + 1 + 1) (rg (nextR xs (d + 1 + 1) 2) 2 2 (pbK1 xs vs at_ (gS k2L (nextR xs (d + 1 + 1) 2)) (d + 1 + 1 + 1) L))
    else dr xs (d + 1 + 1) (rg (nextR xs (d + 1 + 1) 4) 4 4 (pbK1 xs vs at_ (gS k4L (nextR xs (d + 1 + 1) 4)) (d + 1 + 1 + 1) L)))))
noncomputable def atN (xs : Array Value) (at_ d : Int) : Int := IntKind.i64.wrap (at_ + gI stL (nextR xs d 4))
def pbV (vs : List Value) (out : Value) (at_ n i : Int) : List Value := [.pointer (some ⟨0, 0, none⟩), fz ⟨vs⟩, out, .int .i64 at_, .int .i64 n, .int .i64 i]
theorem prN (xs : Array Value) (d at_ n i : Int) (vs : List Value) (B : List Value → AH → Prop) (Q : AExit → List Value → AH → Prop) :
    once 1 Tryz.prog SP1 [] noHooks 600 51 [0, 1, 5, 6, 9, 10] [1] [0, 5] [1] (oneLoop (codeOf Tryz.f7) 4) (pbV vs nilV at_ n i) (pbHN xs d) B Q =
      bif decide (i < n) then pbT xs vs (atN xs at_ d) d (fun a k g e => NoNames (.cells ⟨tC (a, k, g)⟩ 43 (0, 0)) ∧ B (pbV vs (.slice (some ⟨1, 0, none⟩) 1 1) (atN xs at_ d) n (IntKind.i64.wrap (i + 1))) (pbHB xs e (tC (a, k, g))))
      else Q (.exit 0) [.pointer (some ⟨0, 0, none⟩), nilV] (pbHN xs d) := by kernel_rfl
theorem prB (xs : Array Value) (d at_ n i : Int) (vs cs : List Value) (m : Nat) (B : List Value → AH → Prop) (Q : AExit → List Value → AH → Prop) :
    once 1 Tryz.prog SP1 [] noHooks 600 51 [0, 1, 5, 6, 9, 10] [1] [0, 5] [1] (oneLoop (codeOf Tryz.f7) 4) (pbV vs (.slice (some ⟨1, 0, none⟩) m m) at_ n i) (pbHB xs d cs) B Q =
      bif decide (i < n) then pbT xs vs (atN xs at_ d) d (fun a k g e => bif (m + 1).ble m then False else bif (m + 1).ble 9223372036854775807 && ((m + 1) * 32).ble 140737488355328 then bif (0 + m * 3).ble (Array.mk cs).size && true && true then
        NoNames (.cells ⟨List.take (m * 3) (List.drop 0 (Array.mk cs).toList) ++ tC (a, k, g)⟩ 43 (0, 0)) ∧
        B (pbV vs (.slice (some ⟨1, 0, none⟩) (m + 1) (m + 1)) (atN xs at_ d) n (IntKind.i64.wrap (i + 1))) (pbHB xs e (List.take (m * 3) (List.drop 0 (Array.mk cs).toList) ++ tC (a, k, g))) else False else False)
      else NoNames (.cells ⟨cs⟩ 43 (0, 0)) ∧ Q (.exit 0) [.pointer (some ⟨0, 0, none⟩), .slice (some ⟨1, 0, none⟩) m m] (pbHB xs d cs) := by kernel_rfl
theorem dr_mk {zs : List Int} {d : Int} (h0 : 0 ≤ d) (h1 : d ≤ 1000000) {X : Prop} (hX : X) : dr (intsV zs) d X := need_mk (by rw [allInts_intsV]; simp [h0, h1]) hX
theorem rg_mk {zs : List Int} {d m : Int} {k : Nat} (h0 : 0 ≤ d) (h1 : d ≤ 1000000) (hm : m = (k : Int)) (hk : 1 ≤ m ∧ m ≤ 100) {X : Prop} (hX : X) : rg (nextR (intsV zs) d m) m k X := by
  have hb := (nextR_spec zs m d h0 h1 hk.1 (by omega)).1
  refine need_mk (by simp [hb.1, hb.2]) (need_mk ?_ hX)
  rw [Nat.blt, Nat.ble_eq]; omega
theorem K2_ex (zs : List Int) {e : Int} (h0 : 0 ≤ e) (h1 : e ≤ 900000) (at_ : Int) (key : ByteArray) (g : Bool) : ∃ a e', e ≤ e' ∧ e' ≤ e + 3 ∧ ∀ L : Int → ByteArray → Bool → Int → Prop, L a key g e' → pbK2 (intsV zs) at_ key g e L := by
  by_cases q1 : nextR (intsV zs) e 80 = 0
  · by_cases q2 : nextR (intsV zs) (e + 1) 12 = 0
    · exact ⟨_, e + 1 + 1 + 1, by omega, by omega, fun L hL => dr_mk h0 (by omega) (pick_t (by rw [q1]; rfl) (dr_mk (by omega) (by omega) (pick_t (by rw [q2]; rfl) (dr_mk (by omega) (by omega) (rg_mk (by omega) (by omega) rfl (by decide) hL)))))⟩
    · exact ⟨_, e + 1 + 1 + 1, by omega, by omega, fun L hL => dr_mk h0 (by omega) (pick_t (by rw [q1]; rfl) (dr_mk (by omega) (by omega) (pick_f (beq_eq_false_iff_ne.2 q2) (dr_mk (by omega) (by omega) hL))))⟩
  · exact ⟨_, e + 1, by omega, by omega, fun L hL => dr_mk h0 (by omega) (pick_f (beq_eq_false_iff_ne.2 q1) hL)⟩
theorem keyI_in : ∀ ks ∈ keyI, ∀ k ∈ ks, inPK k = true := by decide +kernel
theorem K1_ex (zs : List Int) {vs : List Value} (hv : okI vs = true) {e : Int} (h0 : 0 ≤ e) (h1 : e ≤ 800000) (at_ : Int) {key : ByteArray} (hk : inPK key = true) :
    ∃ a k g e', inPK k = true ∧ e ≤ e' ∧ e' ≤ e + 6 ∧ ∀ L : Int → ByteArray → Bool → Int → Prop, L a k g e' → pbK1 (intsV zs) vs at_ key e L := by
  obtain ⟨l1, l4⟩ := okI_len hv
  obtain ⟨I, ⟨hI, _⟩, rfl⟩ := okI_iff.1 hv
  have hsz : (Array.mk (I.map instV)).size = I.length := by simp
  rw [List.length_map] at l1 l4
  have hpos : decide (((Array.mk (I.map instV)).size : Int) > 0) = true := decide_eq_true (by rw [hsz]; omega)
  by_cases q1 : nextR (intsV zs) (e + 1) 60 = 0
  · obtain ⟨a, e', x1, x2, x3⟩ := K2_ex zs (e := e + 1 + 1) (by omega) (by omega) at_ key (nextR (intsV zs) e 2 == 0)
    exact ⟨a, key, _, e', hk, by omega, by omega, fun L hL => dr_mk h0 (by omega) (pick_t hpos (dr_mk (by omega) (by omega) (pick_f (by rw [q1]; rfl) (x3 L hL))))⟩
  · have hb := (nextR_spec zs (I.length : Int) (e + 1 + 1) (by omega) (by omega) (by omega) (by omega)).1
    have hr : (nextR (intsV zs) (e + 1 + 1) (I.length : Int)).toNat < I.length := by omega
    have hget : elV (I.map instV) (nextR (intsV zs) (e + 1 + 1) (I.length : Int)) = instV I[(nextR (intsV zs) (e + 1 + 1) (I.length : Int)).toNat] := by
      unfold elV
      show (I.map instV).getD _ undef = _
      simp [List.getD, hr]
    obtain ⟨a, e', x1, x2, x3⟩ := K2_ex zs (e := e + 1 + 1 + 1) (by omega) (by omega) at_ (I[(nextR (intsV zs) (e + 1 + 1) (I.length : Int)).toNat]).1 (nextR (intsV zs) e 2 == 0)
    have hin : inPK (I[(nextR (intsV zs) (e + 1 + 1) (I.length : Int)).toNat]).1 = true := keyI_in _ hI _ (List.mem_map.2 ⟨_, List.getElem_mem hr, rfl⟩)
    refine ⟨a, _, (nextR (intsV zs) e 2 == 0), e', hin, by omega, by omega, fun L hL => dr_mk h0 (by omega) (pick_t hpos (dr_mk (by omega) (by omega) (pick_t (by rw [beq_eq_false_iff_ne.2 q1]; rfl) ?_)))⟩
    rw [hsz]
    refine need_mk (by rw [allInts_intsV]; simp; omega) (need_mk (by simp; omega) ?_)
    rw [hget]
    exact ⟨hget, x3 L hL⟩
theorem k2_in (r : Int) (h0 : 0 ≤ r) (h1 : r < 2) : inPK (gS k2L r) = true := by
  have : r = 0 ∨ r = 1 := by omega
  rcases this with rfl | rfl <;> decide +kernel
theorem k4_in (r : Int) (h0 : 0 ≤ r) (h1 : r < 4) : inPK (gS k4L r) = true := by
  have : r = 0 ∨ r = 1 ∨ r = 2 ∨ r = 3 := by omega
  rcases this with rfl | rfl | rfl | rfl <;> decide +kernel
theorem T_ex (zs : List Int) {vs : List Value} (hv : okI vs = true) {d : Int} (h0 : 0 ≤ d) (h1 : d ≤ 700000) (at_ : Int) :
    ∃ t : T3, ∃ e', inPK t.2.1 = true ∧ d ≤ e' ∧ e' ≤ d + 9 ∧ ∀ L : Int → ByteArray → Bool → Int → Prop, L t.1 t.2.1 t.2.2 e' → pbT (intsV zs) vs at_ d L := by
  by_cases q1 : nextR (intsV zs) (d + 1) 40 = 0
  · have hb := (nextR_spec zs 2 (d + 1 + 1) (by omega) (by omega) (by omega) (by omega)).1
    obtain ⟨a, k, g, e', x0, x1, x2, x3⟩ := K1_ex zs hv (e := d + 1 + 1 + 1) (by omega) (by omega) at_ (k2_in _ hb.1 hb.2)
    exact ⟨(a, k, g), e', x0, by omega, by omega, fun L hL => dr_mk h0 (by omega) (rg_mk h0 (by omega) rfl (by decide) (dr_mk (by omega) (by omega) (pick_t (by rw [q1]; rfl) (dr_mk (by omega) (by omega) (rg_mk (by omega) (by omega) rfl (by decide) (x3 L hL))))))⟩
  · have hb := (nextR_spec zs 4 (d + 1 + 1) (by omega) (by omega) (by omega) (by omega)).1
    obtain ⟨a, k, g, e', x0, x1, x2, x3⟩ := K1_ex zs hv (e := d + 1 + 1 + 1) (by omega) (by omega) at_ (k4_in _ hb.1 hb.2)
    exact ⟨(a, k, g), e', x0, by omega, by omega, fun L hL => dr_mk h0 (by omega) (rg_mk h0 (by omega) rfl (by decide) (dr_mk (by omega) (by omega) (pick_f (beq_eq_false_iff_ne.2 q1) (dr_mk (by omega) (by omega) (rg_mk (by omega) (by omega) rfl (by decide) (x3 L hL))))))⟩
def pbH (xs : Array Value) (d : Int) : List T3 → AH
  | [] => pbHN xs d
  | t :: l => pbHB xs d ((t :: l).flatMap tC)
theorem pb_loop {zs : List Int} {vs : List Value} (hv : okI vs = true) {n : Nat} (hn : n ≤ 16) : ∀ (r i : Nat) (O : List T3) (at_ d : Int), i + r = n → O.length ≤ i → (∀ t ∈ O, inPK t.2.1 = true) → 0 ≤ d → d ≤ 1000 + 9 * i →
    ∃ (O' : List T3) (d' : Int), (∀ t ∈ O', inPK t.2.1 = true) ∧ O'.length ≤ n ∧ 0 ≤ d' ∧ d' ≤ 1000 + 9 * n ∧ ∀ K : AExit → List Value → AH → Prop,
      K (.exit 0) [.pointer (some ⟨0, 0, none⟩), outX O'] (pbH (intsV zs) d' O') → iter 1 Tryz.prog SP1 [] noHooks 600 51 [0, 1, 5, 6, 9, 10] [1] [0, 5] [1] (oneLoop (codeOf Tryz.f7) 4) (r + 1) (pbV vs (outX O) at_ (n : Int) (i : Int)) (pbH (intsV zs) d O) K := by
  intro r
  induction r with
  | zero =>
    intro i O at_ d h1 h2 h3 h4 h5
    refine ⟨O, d, h3, by omega, h4, by omega, fun K hK => ?_⟩
    cases O with
    | nil => exact (prN _ _ _ _ _ _ _ K).mpr (pick_f (by simp; omega) hK)
    | cons u o => exact (prB _ _ _ _ _ _ _ _ _ K).mpr (pick_f (by simp; omega) ⟨nnF _ _ _, hK⟩)
  | succ r ih =>
    intro i O at_ d h1 h2 h3 h4 h5
    obtain ⟨t, e, x0, x1, x2, x3⟩ := T_ex zs hv h4 (by omega) (atN (intsV zs) at_ d)
    obtain ⟨O', d', y1, y2, y3, y4, y5⟩ := ih (i + 1) (O ++ [t]) (atN (intsV zs) at_ d) e (by omega) (by simp; omega) (fun u hu => by
      rcases List.mem_append.1 hu with q | q
      · exact h3 u q
      · rw [List.mem_singleton.1 q]; exact x0) (by omega) (by omega)
    refine ⟨O', d', y1, y2, y3, y4, fun K hK => ?_⟩
    have hK := y5 K hK
    cases O with
    | nil =>
      refine (prN _ _ _ _ _ _ _ K).mpr (pick_t (decide_eq_true (by omega)) (x3 _ ⟨?_, ?_⟩))
      · have := nnF [t] 43 (0, 0)
        exact this
      · rw [wrap1 (by omega)]; exact hK
    | cons u o =>
      have hfl : List.take ((u :: o).length * 3) (List.drop 0 (Array.mk ((u :: o).flatMap tC)).toList) = (u :: o).flatMap tC := by
        have := tC_len (u :: o)
        rw [List.drop_zero]
        exact List.take_of_length_le (by show ((u :: o).flatMap tC).length ≤ _; omega)
      have e1 : (u :: o).flatMap tC ++ tC (t.1, t.2.1, t.2.2) = ((u :: o) ++ [t]).flatMap tC := by simp
      have hsz := size_flat (u :: o)
      refine (prB _ _ _ _ _ _ _ _ _ K).mpr (pick_t (decide_eq_true (by omega)) (x3 _ (pick_f (ble_ss _) (need_mk ?_ (need_mk ?_ ?_)))))
      · rw [Bool.and_eq_true, Nat.ble_eq, Nat.ble_eq]; omega
      · rw [hsz, Nat.ble_eq_true_of_le (by omega)]; rfl
      · rw [hfl, e1, wrap1 (by omega)]
        refine ⟨nnF _ _ _, ?_⟩
        have e3 : outX ((u :: o) ++ [t]) = .slice (some ⟨1, 0, none⟩) ((u :: o).length + 1) ((u :: o).length + 1) := by
          show Value.slice (some ⟨1, 0, none⟩) ((u :: o) ++ [t]).length ((u :: o) ++ [t]).length = _
          rw [List.length_append]; rfl
        rw [e3] at hK
        exact hK
theorem onePB : (loopAt (codeOf Tryz.f7) 4).length = 1 := by kernel_rfl
theorem somePB : Tryz.f7.body.isSome = true := by kernel_rfl
theorem pfN (xs : Array Value) (d d2 : Int) (vs cs : List Value) (k : Nat) (C : List Value → AH → Prop) (Q : Value → Option Obj → Prop) : (tfn Tryz.prog SP1 [] (hook1 4 (thenLS (hookLS 1 51 [0, 1, 5, 6, 9, 10] [1] [0, 5] (fun vals h K => C vals h ∧ K (.exit 0) [.pointer (some ⟨0, 0, none⟩), .slice none 0 0] (pbHN xs d2))) (normG 1 51 [0, 5] []))) 600 [] Tryz.f7 [.pointer (some ⟨0, 0, none⟩), fz ⟨vs⟩] (h1 (strm xs d)) (fun v h => Q v (h.get 0))) = bif decide (0 ≤ d) && decide (d ≤ 1000000) && true && true && true && allInts xs then C [Value.pointer (some { block := 0, off := 0 }), Value.func (Fn.yield 0) { toList := vs } { toList := [] }, Value.slice none 0 0, Value.int IntKind.i64 0, Value.int IntKind.i64 (IntKind.i64.wrap (0 + nextR xs d 17)), Value.int IntKind.i64 0] { next := 1, low := 1, blocks := [(0, Obj.cells { toList := [Value.func (Fn.yield 0) xs { toList := [] }, Value.int IntKind.i64 (d + 1)] } 25 (0, 0))] } ∧ Q (Value.slice none 0 0) (some (Obj.cells { toList := [Value.func (Fn.yield 0) xs { toList := [] }, Value.int IntKind.i64 d2] } 25 (0, 0))) else False := by kernel_rfl

theorem pfB (xs : Array Value) (d d2 : Int) (vs cs : List Value) (k : Nat) (C : List Value → AH → Prop) (Q : Value → Option Obj → Prop) :
    tfn Tryz.prog SP1 [] (hook1 4 (thenLS (hookLS 1 51 [0, 1, 5, 6, 9, 10] [1] [0, 5] (fun vals h K => C vals h ∧ K (.exit 0) [.pointer (some ⟨0, 0, none⟩), .slice (some ⟨1, 0, none⟩) k k] (pbHB xs d2 cs))) (freezeG 51 true 3 [5]))) 600 [] Tryz.f7 [.pointer (some ⟨0, 0, none⟩), fz ⟨vs⟩] (Ev.h1 (strm xs d)) (fun v h => Q v (h.get 0)) =
      dr xs d (C (pbV vs nilV 0 (IntKind.i64.wrap (0 + nextR xs d 17)) 0) (pbHN xs (d + 1)) ∧ bif ((Nat.beq k k && Nat.beq k k) && true) && cs.all p1 && k.ble k && (k * 3).ble cs.length && true then Q (fz ⟨chunk true 3 k cs⟩) (some (strm xs d2)) else False) := by kernel_rfl
/-- Probes as they are drawn, and where the stream stands then. -/
def PbOK (xs : Array Value) (vs : List Value) (d : Int) (p : List T3 × Int) : Prop := Tok p.1 ∧ 0 ≤ p.2 ∧ p.2 ≤ 10000 ∧
  FnOK 1 Tryz.prog 7 ⟨[.pointer (some ⟨0, 0, none⟩), fz ⟨vs⟩]⟩ (Ev.h1 (strm xs d)) (fun u g => u = scD (isE (p.1.map tV)) (p.1.map tV) ∧ g.get 0 = some (strm xs p.2))
theorem pb_fn (zs : List Int) {vs : List Value} (hv : okI vs = true) {d : Int} (h0 : 0 ≤ d) (h1 : d ≤ 100) : ∃ p, PbOK (intsV zs) vs d p := by
  have hb := (nextR_spec zs 17 d h0 (by omega) (by omega) (by omega)).1
  obtain ⟨n, hn⟩ : ∃ n : Nat, nextR (intsV zs) d 17 = (n : Int) := ⟨(nextR (intsV zs) d 17).toNat, by omega⟩
  have hw : IntKind.i64.wrap (0 + nextR (intsV zs) d 17) = (n : Int) := by rw [hn, Int.zero_add, wrap_id _ (by omega) (by omega)]
  obtain ⟨O, e, y1, y2, y3, y4, y5⟩ := pb_loop (zs := zs) hv (n := n) (by omega) n 0 [] 0 (d + 1) (by omega) (Nat.le_refl _) (fun t ht => by cases ht) (by omega) (by omega)
  refine ⟨(O, e), ⟨y1, by show O.length ≤ 16; omega⟩, y3, by show e ≤ 10000; omega, ?_⟩
  cases O with
  | nil =>
    have hsp : LSpec 1 Tryz.prog 51 (oneLoop (codeOf Tryz.f7) 4) (thenLS (hookLS 1 51 [0, 1, 5, 6, 9, 10] [1] [0, 5] (fun vals h K => (vals = pbV vs nilV 0 (n : Int) 0 ∧ h = pbHN (intsV zs) (d + 1)) ∧ K (.exit 0) [.pointer (some ⟨0, 0, none⟩), .slice none 0 0] (pbHN (intsV zs) e))) (normG 1 51 [0, 5] [])) := by
      refine thenLS_ok (hook_ok (G := []) (L := noHooks) (f := 600) (sameX := [1]) SP1_ok mixed (by decide) (loops_none _ _ _ _) ?_) (normG_ok _ _ (by decide) _ _)
      rintro vals h K ⟨⟨rfl, rfl⟩, hK⟩
      exact ⟨_, y5 K hK⟩
    rw [show isE (List.map tV ([] : List T3)) = true from isE_iff.2 rfl]
    refine FnOK.ttree SP1_ok mixed Tryz.func7 somePB (loops_one onePB hsp) (pfN (intsV zs) d e vs [] 0 _ (fun u o => u = .slice none 0 0 ∧ o = some (strm (intsV zs) e))) ?_
    exact dr_mk h0 (by omega) ⟨⟨by rw [hw]; rfl, rfl⟩, rfl, rfl⟩
  | cons t l =>
    have hsp : LSpec 1 Tryz.prog 51 (oneLoop (codeOf Tryz.f7) 4) (thenLS (hookLS 1 51 [0, 1, 5, 6, 9, 10] [1] [0, 5] (fun vals h K => (vals = pbV vs nilV 0 (n : Int) 0 ∧ h = pbHN (intsV zs) (d + 1)) ∧ K (.exit 0) [.pointer (some ⟨0, 0, none⟩), .slice (some ⟨1, 0, none⟩) (t :: l).length (t :: l).length] (pbHB (intsV zs) e ((t :: l).flatMap tC)))) (freezeG 51 true 3 [5])) := by
      refine thenLS_ok (hook_ok (G := []) (L := noHooks) (f := 600) (sameX := [1]) SP1_ok mixed (by decide) (loops_none _ _ _ _) ?_) (freezeG_ok _ _ _ _ _ _)
      rintro vals h K ⟨⟨rfl, rfl⟩, hK⟩
      exact ⟨_, y5 K hK⟩
    have he : isE ((t :: l).map tV) = false := by
      cases q : isE ((t :: l).map tV) with
      | false => rfl
      | true => have := isE_iff.1 q; cases this
    rw [he]
    refine FnOK.ttree SP1_ok mixed Tryz.func7 somePB (loops_one onePB hsp) (pfB (intsV zs) d e vs ((t :: l).flatMap tC) (t :: l).length _ (fun u o => u = fz ⟨(t :: l).map tV⟩ ∧ o = some (strm (intsV zs) e))) ?_
    refine dr_mk h0 (by omega) ⟨⟨by rw [hw], rfl⟩, need_mk ?_ ⟨by rw [chunk_tV], rfl⟩⟩
    rw [Nat.beq_refl, Nat.ble_eq_true_of_le (Nat.le_refl _), tC_len, Nat.ble_eq_true_of_le (Nat.le_refl _), List.all_eq_true.2 (fun v hv => p1_tC v hv)]
    rfl
open Classical in
noncomputable def pbC (xs : Array Value) (vs : List Value) (d : Int) : List T3 × Int := if h : ∃ p, PbOK xs vs d p then h.choose else ([], 0)
theorem pbC_ok (zs : List Int) {vs : List Value} (hv : okI vs = true) {d : Int} (h0 : 0 ≤ d) (h1 : d ≤ 100) : PbOK (intsV zs) vs d (pbC (intsV zs) vs d) := by
  have h := pb_fn zs hv h0 h1
  unfold pbC
  rw [dif_pos h]
  exact h.choose_spec
end Go.Proofs.YtbeodpcdjlphkaaGreatDoor
