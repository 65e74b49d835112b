/-
  Templates: the parts as they are drawn.
-/
import Derived.Test.YtklcapmmogediaaGreatDoorTpF
namespace Go.Proofs.YtklcapmmogediaaGreatDoor
open Go.Ev Go.RowKit TplLaw

/-! Range from 0 to 3, told beforehand -/
theorem someRG : Tryz.f13.body.isSome = true := by kernel_rfl
theorem rgf (xs : Array Value) (d : Int) (Q : Value → Option Obj → Prop) : ffn Tryz.prog SI [] 600 [] Tryz.f13 [.pointer (some ⟨0, 0, none⟩), .int .i64 0, .int .i64 3] (Ev.h1 (strm xs d)) (fun v h => Q v (h.get 0)) =
    bif decide (0 ≤ d) && decide (d ≤ 1000000) && true && true && true && allInts xs then Q (.int .i64 (IntKind.i64.wrap (0 + nextR xs d 4))) (some (strm xs (d + 1))) else False := by kernel_rfl
noncomputable def spRg (r : Int) (f : FuncId) (args : Array Value) (h : AH) : Option (Bool × Value × AH) :=
  cond (Nat.beq f 13) (match args with
    | ⟨[.pointer (some ⟨b, 0, none⟩), .int .i64 lo, .int .i64 hi]⟩ => cond (decide (lo = 0) && decide (hi = 3)) (match h.get b with
      | some (.cells ⟨[.func (.yield 0) xs ⟨[]⟩, .int .i64 at_]⟩ t (0, 0)) =>
        some (Nat.beq t 25 && decide (0 ≤ at_) && decide (at_ ≤ 1000000) && allInts xs && decide (nextR xs at_ 4 = r), .int .i64 r, h.set b (.cells ⟨[fz xs, .int .i64 (at_ + 1)]⟩ 25 (0, 0)))
      | _ => none) none
    | _ => none) none
theorem spRg_ok (r : Int) : SpOK (spRg r) := by
  intro f args h v h' hs
  unfold spRg at hs
  obtain ⟨hf, hs2⟩ := cond_some hs
  clear hs
  have := Nat.eq_of_beq_eq_true hf
  subst this
  split at hs2
  · rename_i b lo hi
    obtain ⟨hq, hs2⟩ := cond_some hs2
    simp only [Bool.and_eq_true, decide_eq_true_eq] at hq
    obtain ⟨rfl, rfl⟩ := hq
    split at hs2
    · rename_i xs at_ t hg
      injection hs2 with hs
      injection hs with hb hs
      injection hs with hv hh
      subst hv hh
      simp only [Bool.and_eq_true, decide_eq_true_eq] at hb
      obtain ⟨⟨⟨⟨b1, b2⟩, b3⟩, b4⟩, b5⟩ := hb
      have b1 := Nat.eq_of_beq_eq_true b1
      subst b1
      obtain ⟨zs, rfl⟩ := intsV_of_all b4
      have hb := (nextR_spec zs 4 at_ b2 b3 (by omega) (by omega)).1
      have hF : FnOK 1 Tryz.prog 13 ⟨[.pointer (some ⟨0, 0, none⟩), .int .i64 0, .int .i64 3]⟩ (Ev.h1 (strm (intsV zs) at_)) (fun u g => u = .int .i64 r ∧ g.get 0 = some (strm (intsV zs) (at_ + 1))) := by
        refine FnOK.ftree SI_ok mixed Tryz.func13 someRG (rgf (intsV zs) at_ (fun u o => u = .int .i64 r ∧ o = some (strm (intsV zs) (at_ + 1)))) ?_
        refine need_mk (by rw [b4]; simp; omega) ⟨?_, rfl⟩
        rw [Int.zero_add, wrap_id _ (by omega) (by omega), b5]
      refine ⟨?_, Nat.le_refl _⟩
      exact FnOK.ref (cs := ⟨[fz (intsV zs), .int .i64 at_]⟩) (cs' := ⟨[fz (intsV zs), .int .i64 (at_ + 1)]⟩) (args := [.int .i64 0, .int .i64 3]) hF rfl (by simp [p1, fz]) (by simp [p1, fz]) rfl hg
    · cases hs2
  · cases hs2
/-! The rounds -/
def strs3 : Obj := .cells ⟨[.string ⟨#[105, 100]⟩, .string ⟨#[120]⟩, .string ⟨#[114, 101, 115, 116]⟩]⟩ 9 (0, 0)
noncomputable def SI1 : SC := ⟨idn, spNext [], true, true⟩
theorem SI1_ok : SI1.cfg.OK Tryz.prog := (spNext_ok []).cfg
noncomputable def SR1 (r : Int) : SC := ⟨idn, spOr (spRg r) (spNext []), true, true⟩
theorem SR1_ok (r : Int) : (SR1 r).cfg.OK Tryz.prog := ((spRg_ok r).or (spNext_ok [])).cfg
def gI (l : List Value) (r : Int) : Int := toInt (l.getD (0 + r.toNat * 1) (Value.tuple { toList := [] }))
def gS (l : List Value) (r : Int) : ByteArray := toStr (l.getD (0 + r.toNat * 1) (Value.tuple { toList := [] }))
noncomputable def dr (xs : Array Value) (d : Int) (X : Prop) : Prop := bif decide (0 ≤ d) && decide (d ≤ 1000000) && true && true && true && allInts xs then X else False
noncomputable def rg (r m : Int) (k : Nat) (X : Prop) : Prop := bif decide (0 ≤ r) && decide (r < m) then bif (0 + r.toNat * 1).blt k then X else False else False
theorem dr_mk {zs : List Int} {d : Int} (h0 : 0 ≤ d) (h1 : d ≤ 1000000) {X : Prop} (hX : X) : dr (intsV zs) d X := need_mk (by rw [allInts_intsV]; simp [h0, h1]) hX
theorem rg_mk {zs : List Int} {d m : Int} {k : Nat} (h0 : 0 ≤ d) (h1 : d ≤ 1000000) (hm : m = (k : Int)) (hk : 1 ≤ m ∧ m ≤ 100) {X : Prop} (hX : X) : rg (nextR (intsV zs) d m) m k X := by
  have hb := (nextR_spec zs m d h0 h1 hk.1 (by omega)).1
  refine need_mk (by simp [hb.1, hb.2]) (need_mk ?_ hX)
  rw [Nat.blt, Nat.ble_eq]; omega
def odL : List Value := [.int .i64 0, .int .i64 4, .int .i64 1, .int .i64 3, .int .i64 (-1099511627776), .int .i64 1099511627776]
def nmL : List Value := [.string ⟨#[105, 100]⟩, .string ⟨#[]⟩, .string ⟨#[49]⟩, .string ⟨#[46, 46]⟩, .string ⟨#[105, 110]⟩]
def knL : List Value := [.int .i64 1, .int .i64 2]
def wdL : List Value := [.string ⟨#[97]⟩, .string ⟨#[98, 32, 99]⟩, .string ⟨#[]⟩, .string ⟨#[97, 47, 98]⟩, .string ⟨#[255]⟩, .string ⟨#[46, 46]⟩, .string ⟨#[123]⟩]
noncomputable def flT (b : Bool) (xs : Array Value) (nm : ByteArray) (L : Int → ByteArray → Int → Prop) (k : Int) (s : ByteArray) (e : Int) : Prop :=
  cond b (dr xs e (bif nextR xs e 2 == 0 then L 3 nm (e + 1) else L k s (e + 1))) (L k s e)
noncomputable def rdT (b : Bool) (xs : Array Value) (d : Int) (nm : ByteArray) (L : Int → ByteArray → Int → Prop) : Prop :=
  dr xs d (rg (nextR xs d 2) 2 2 (bif gI knL (nextR xs d 2) == 1 then dr xs (d + 1) (rg (nextR xs (d + 1) 7) 7 7 (flT b xs nm L (gI knL (nextR xs d 2)) (gS wdL (nextR xs (d + 1) 7)) (d + 1 + 1))) else flT b xs nm L (gI knL (nextR xs d 2)) nm (d + 1)))
def vN (m : Nat) (i : Int) : List Value := [.pointer (some ⟨0, 0, none⟩), .slice none 0 0, .slice (some ⟨1, 0, none⟩) m 3, .int .i64 (m : Int), .int .i64 i]
def vB (k m : Nat) (i : Int) : List Value := [.pointer (some ⟨0, 0, none⟩), .slice (some ⟨1, 0, none⟩) k k, .slice (some ⟨2, 0, none⟩) m 3, .int .i64 (m : Int), .int .i64 i]
def hN (xs : Array Value) (d : Int) : AH := ⟨2, 2, [(0, strm xs d), (1, strs3)]⟩
def hB (xs : Array Value) (d : Int) (cs : List Value) : AH := ⟨3, 3, [(0, strm xs d), (1, .cells ⟨cs⟩ 40 (0, 0)), (2, strs3)]⟩
def hxN (xs : Array Value) (d : Int) : AH := ⟨1, 1, [(0, strm xs d)]⟩
def hxB (xs : Array Value) (d : Int) (cs : List Value) : AH := ⟨2, 2, [(0, strm xs d), (1, .cells ⟨cs⟩ 40 (0, 0))]⟩
theorem tr0 (xs : Array Value) (d : Int) (m : Nat)  (B : List Value → AH → Prop) (Q : AExit → List Value → AH → Prop) : once 1 Tryz.prog SI1 [] noHooks 600 68 [0, 3, 11, 12, 13] [] [0, 3] [] (oneLoop (codeOf Tryz.f5) 3) (vN m 0) (hN xs d) B Q =
    bif decide ((0 : Int) < (m : Int)) then bif decide ((0 : Int) < (m : Int)) then rdT false xs d ⟨#[105, 100]⟩ (fun k s e => B (vB 1 m 1) (hB xs e [.int .i64 k, .string s])) else False else Q (.exit 0) [.pointer (some ⟨0, 0, none⟩), (.slice none 0 0)] (hxN xs d) := by kernel_rfl
theorem tr1 (xs : Array Value) (d : Int) (m : Nat) (k0 : Int) (s0 : ByteArray) (B : List Value → AH → Prop) (Q : AExit → List Value → AH → Prop) : once 1 Tryz.prog SI1 [] noHooks 600 68 [0, 3, 11, 12, 13] [] [0, 3] [] (oneLoop (codeOf Tryz.f5) 3) (vB 1 m 1) (hB xs d [.int .i64 k0, .string s0]) B Q =
    bif decide ((1 : Int) < (m : Int)) then bif decide ((1 : Int) < (m : Int)) then rdT false xs d ⟨#[120]⟩ (fun k s e => B (vB 2 m 2) (hB xs e [.int .i64 k0, .string s0, .int .i64 k, .string s])) else False else Q (.exit 0) [.pointer (some ⟨0, 0, none⟩), (.slice (some ⟨1, 0, none⟩) 1 1)] (hxB xs d [.int .i64 k0, .string s0]) := by kernel_rfl
theorem tr2 (xs : Array Value) (d : Int) (m : Nat) (k0 : Int) (s0 : ByteArray) (k1 : Int) (s1 : ByteArray) (B : List Value → AH → Prop) (Q : AExit → List Value → AH → Prop) : once 1 Tryz.prog SI1 [] noHooks 600 68 [0, 3, 11, 12, 13] [] [0, 3] [] (oneLoop (codeOf Tryz.f5) 3) (vB 2 m 2) (hB xs d [.int .i64 k0, .string s0, .int .i64 k1, .string s1]) B Q =
    bif decide ((2 : Int) < (m : Int)) then bif decide ((2 : Int) < (m : Int)) then rdT true xs d ⟨#[114, 101, 115, 116]⟩ (fun k s e => B (vB 3 m 3) (hB xs e [.int .i64 k0, .string s0, .int .i64 k1, .string s1, .int .i64 k, .string s])) else False else Q (.exit 0) [.pointer (some ⟨0, 0, none⟩), (.slice (some ⟨1, 0, none⟩) 2 2)] (hxB xs d [.int .i64 k0, .string s0, .int .i64 k1, .string s1]) := by kernel_rfl
theorem tr3 (xs : Array Value) (d : Int) (k0 : Int) (s0 : ByteArray) (k1 : Int) (s1 : ByteArray) (k2 : Int) (s2 : ByteArray) (B : List Value → AH → Prop) (Q : AExit → List Value → AH → Prop) : once 1 Tryz.prog SI1 [] noHooks 600 68 [0, 3, 11, 12, 13] [] [0, 3] [] (oneLoop (codeOf Tryz.f5) 3) (vB 3 3 3) (hB xs d [.int .i64 k0, .string s0, .int .i64 k1, .string s1, .int .i64 k2, .string s2]) B Q = Q (.exit 0) [.pointer (some ⟨0, 0, none⟩), (.slice (some ⟨1, 0, none⟩) 3 3)] (hxB xs d [.int .i64 k0, .string s0, .int .i64 k1, .string s1, .int .i64 k2, .string s2]) := by kernel_rfl
noncomputable def odT (xs : Array Value) (d : Int) (K2 : Int → Int → Prop) : Prop :=
  dr xs d (bif nextR xs d 12 == 0 then dr xs (d + 1) (rg (nextR xs (d + 1) 6) 6 6 (K2 (gI odL (nextR xs (d + 1) 6)) (d + 1 + 1))) else dr xs (d + 1) (K2 (IntKind.i64.wrap (1 + nextR xs (d + 1) 3)) (d + 1 + 1)))
noncomputable def tlT (xs : Array Value) (d : Int) (n : Int) (sz : Nat) (cs : List Value) (K : Array Value → Int → Prop) : Prop :=
  dr xs d (bif nextR xs d 12 == 0 then dr xs (d + 1) (
    bif decide (0 ≤ nextR xs (d + 1) n) && decide (nextR xs (d + 1) n < n) then
    odT xs (d + 1 + 1) fun k e =>
      dr xs e (rg (nextR xs e 5) 5 5 (
        bif (0 + (nextR xs (d + 1) n).toNat * 2 + 1).ble sz && true && true then
        bif (0 + (nextR xs (d + 1) n).toNat * 2 + 1 + 1).ble (putAll ⟨cs⟩ (0 + (nextR xs (d + 1) n).toNat * 2) [.int .i64 k]).size && true && true then
          K (putAll (putAll ⟨cs⟩ (0 + (nextR xs (d + 1) n).toNat * 2) [.int .i64 k]) (0 + (nextR xs (d + 1) n).toNat * 2 + 1) [.string (gS nmL (nextR xs e 5))]) (e + 1)
        else False else False))
    else False)
  else K ⟨cs⟩ (d + 1))
theorem tl0 (xs : Array Value) (d : Int)  (C : List Value → AH → Prop) (Q : Value → Option Obj → Option Obj → Prop) :
    tfn Tryz.prog (SR1 0) [] (hook1 3 (hookLS 1 68 [0, 3, 11, 12, 13] [] [0, 3] (fun vals h K => C vals h ∧ K (.exit 0) [.pointer (some ⟨0, 0, none⟩), (.slice none 0 0)] (hxN xs d)))) 600 [] Tryz.f5 [.pointer (some ⟨0, 0, none⟩)] (Ev.h1 (strm xs 0)) (fun v h => Q v (h.get 0) (h.get (blkOf v))) =
      bif allInts xs && decide (nextR xs 0 4 = 0) then C (vN 0 0) (hN xs 1) ∧
        Q (.slice none 0 0) (some (strm xs d)) (some (strm xs d)) else False := by kernel_rfl
theorem tl1 (xs : Array Value) (d : Int) (k0 : Int) (s0 : ByteArray) (C : List Value → AH → Prop) (Q : Value → Option Obj → Option Obj → Prop) :
    tfn Tryz.prog (SR1 1) [] (hook1 3 (hookLS 1 68 [0, 3, 11, 12, 13] [] [0, 3] (fun vals h K => C vals h ∧ K (.exit 0) [.pointer (some ⟨0, 0, none⟩), (.slice (some ⟨1, 0, none⟩) 1 1)] (hxB xs d [.int .i64 k0, .string s0])))) 600 [] Tryz.f5 [.pointer (some ⟨0, 0, none⟩)] (Ev.h1 (strm xs 0)) (fun v h => Q v (h.get 0) (h.get (blkOf v))) =
      bif allInts xs && decide (nextR xs 0 4 = 1) then C (vN 1 0) (hN xs 1) ∧
        tlT xs d 1 2 [.int .i64 k0, .string s0] (fun c e => Q (.slice (some ⟨1, 0, none⟩) 1 1) (some (strm xs e)) (some (.cells c 40 (0, 0)))) else False := by kernel_rfl
theorem tl2 (xs : Array Value) (d : Int) (k0 : Int) (s0 : ByteArray) (k1 : Int) (s1 : ByteArray) (C : List Value → AH → Prop) (Q : Value → Option Obj → Option Obj → Prop) :
    tfn Tryz.prog (SR1 2) [] (hook1 3 (hookLS 1 68 [0, 3, 11, 12, 13] [] [0, 3] (fun vals h K => C vals h ∧ K (.exit 0) [.pointer (some ⟨0, 0, none⟩), (.slice (some ⟨1, 0, none⟩) 2 2)] (hxB xs d [.int .i64 k0, .string s0, .int .i64 k1, .string s1])))) 600 [] Tryz.f5 [.pointer (some ⟨0, 0, none⟩)] (Ev.h1 (strm xs 0)) (fun v h => Q v (h.get 0) (h.get (blkOf v))) =
      bif allInts xs && decide (nextR xs 0 4 = 2) then C (vN 2 0) (hN xs 1) ∧
        tlT xs d 2 4 [.int .i64 k0, .string s0, .int .i64 k1, .string s1] (fun c e => Q (.slice (some ⟨1, 0, none⟩) 2 2) (some (strm xs e)) (some (.cells c 40 (0, 0)))) else False := by kernel_rfl
theorem tl3 (xs : Array Value) (d : Int) (k0 : Int) (s0 : ByteArray) (k1 : Int) (s1 : ByteArray) (k2 : Int) (s2 : ByteArray) (C : List Value → AH → Prop) (Q : Value → Option Obj → Option Obj → Prop) :
    tfn Tryz.prog (SR1 3) [] (hook1 3 (hookLS 1 68 [0, 3, 11, 12, 13] [] [0, 3] (fun vals h K => C vals h ∧ K (.exit 0) [.pointer (some ⟨0, 0, none⟩), (.slice (some ⟨1, 0, none⟩) 3 3)] (hxB xs d [.int .i64 k0, .string s0, .int .i64 k1, .string s1, .int .i64 k2, .string s2])))) 600 [] Tryz.f5 [.pointer (some ⟨0, 0, none⟩)] (Ev.h1 (strm xs 0)) (fun v h => Q v (h.get 0) (h.get (blkOf v))) =
      bif allInts xs && decide (nextR xs 0 4 = 3) then C (vN 3 0) (hN xs 1) ∧
        tlT xs d 3 6 [.int .i64 k0, .string s0, .int .i64 k1, .string s1, .int .i64 k2, .string s2] (fun c e => Q (.slice (some ⟨1, 0, none⟩) 3 3) (some (strm xs e)) (some (.cells c 40 (0, 0)))) else False := by kernel_rfl

theorem oneTP : (loopAt (codeOf Tryz.f5) 3).length = 1 := by kernel_rfl
theorem someTP : Tryz.f5.body.isSome = true := by kernel_rfl
theorem wd_in (r : Int) (h0 : 0 ≤ r) (h1 : r < 7) : (gS wdL r).data.toList ∈ allN := by
  have : r = 0 ∨ r = 1 ∨ r = 2 ∨ r = 3 ∨ r = 4 ∨ r = 5 ∨ r = 6 := by omega
  rcases this with rfl | rfl | rfl | rfl | rfl | rfl | rfl <;> decide +kernel
theorem nm_in (r : Int) (h0 : 0 ≤ r) (h1 : r < 5) : (gS nmL r).data.toList ∈ allN := by
  have : r = 0 ∨ r = 1 ∨ r = 2 ∨ r = 3 ∨ r = 4 := by omega
  rcases this with rfl | rfl | rfl | rfl | rfl <;> decide +kernel
theorem fl_ex (zs : List Int) {e : Int} (h0 : 0 ≤ e) (h1 : e ≤ 1000) (b : Bool) {nm : List UInt8} (hn : nm ∈ allN) (k : Int) {s : ByteArray} (hs : s.data.toList ∈ allN) :
    ∃ (p : Pt) (e' : Int), p.2 ∈ allN ∧ e ≤ e' ∧ e' ≤ e + 1 ∧ ∀ L : Int → ByteArray → Int → Prop, L p.1 (bl p.2) e' → flT b (intsV zs) (bl nm) L k s e := by
  have hself := bl_self s
  cases b with
  | false => exact ⟨(k, s.data.toList), e, hs, by omega, by omega, fun L hL => by simp only [hself] at hL; exact hL⟩
  | true =>
    by_cases q : nextR (intsV zs) e 2 = 0
    · exact ⟨(3, nm), e + 1, hn, by omega, by omega, fun L hL => dr_mk h0 (by omega) (pick_t (by rw [q]; rfl) hL)⟩
    · exact ⟨(k, s.data.toList), e + 1, hs, by omega, by omega, fun L hL => dr_mk h0 (by omega) (pick_f (beq_eq_false_iff_ne.2 q) (by simp only [hself] at hL; exact hL))⟩
theorem T_ex (zs : List Int) {d : Int} (h0 : 0 ≤ d) (h1 : d ≤ 900) (b : Bool) {nm : List UInt8} (hn : nm ∈ allN) :
    ∃ (p : Pt) (e : Int), p.2 ∈ allN ∧ d ≤ e ∧ e ≤ d + 3 ∧ ∀ L : Int → ByteArray → Int → Prop, L p.1 (bl p.2) e → rdT b (intsV zs) d (bl nm) L := by
  cases hk : (gI knL (nextR (intsV zs) d 2) == 1) with
  | true =>
    have hb := (nextR_spec zs 7 (d + 1) (by omega) (by omega) (by omega) (by omega)).1
    obtain ⟨p, e, x1, x2, x3, x4⟩ := fl_ex zs (e := d + 1 + 1) (by omega) (by omega) b hn (gI knL (nextR (intsV zs) d 2)) (wd_in _ hb.1 hb.2)
    exact ⟨p, e, x1, by omega, by omega, fun L hL => dr_mk h0 (by omega) (rg_mk h0 (by omega) rfl (by decide) (pick_t hk (dr_mk (by omega) (by omega) (rg_mk (by omega) (by omega) rfl (by decide) (x4 L hL)))))⟩
  | false =>
    obtain ⟨p, e, x1, x2, x3, x4⟩ := fl_ex zs (e := d + 1) (by omega) (by omega) b hn (gI knL (nextR (intsV zs) d 2)) (s := bl nm) (by rw [bl_list]; exact hn)
    exact ⟨p, e, x1, by omega, by omega, fun L hL => dr_mk h0 (by omega) (rg_mk h0 (by omega) rfl (by decide) (pick_f hk (x4 L hL)))⟩
theorem K2_ex (zs : List Int) {d : Int} (h0 : 0 ≤ d) (h1 : d ≤ 1100) : ∃ (k : Int) (e : Int), d ≤ e ∧ e ≤ d + 2 ∧ ∀ K2 : Int → Int → Prop, K2 k e →
odT (intsV zs) d K2 := by
  by_cases q : nextR (intsV zs) d 12 = 0
  · exact ⟨_, d + 1 + 1, by omega, by omega, fun K2 h => dr_mk h0 (by omega) (pick_t (by rw [q]; rfl) (dr_mk (by omega) (by omega) (rg_mk (by omega) (by omega) rfl (by decide) h)))⟩
  · exact ⟨_, d + 1 + 1, by omega, by omega, fun K2 h => dr_mk h0 (by omega) (pick_f (beq_eq_false_iff_ne.2 q) (dr_mk (by omega) (by omega) h))⟩
theorem it_mk (n : Nat) {m : Nat} (hm : m = n + 1) {vals : List Value} {h : AH} {K : AExit → List Value → AH → Prop} (hx : once 1 Tryz.prog SI1 [] noHooks 600 68 [0, 3, 11, 12, 13] [] [0, 3] [] (oneLoop (codeOf Tryz.f5) 3) vals h (fun v g => iter 1 Tryz.prog SI1 [] noHooks 600 68 [0, 3, 11, 12, 13] [] [0, 3] [] (oneLoop (codeOf Tryz.f5) 3) n v g K) K) : iter 1 Tryz.prog SI1 [] noHooks 600 68 [0, 3, 11, 12, 13] [] [0, 3] [] (oneLoop (codeOf Tryz.f5) 3) m vals h K := by subst hm; exact hx
set_option maxRecDepth 20000 in
theorem ps0 (zs : List Int) : ∃ (d : Int),  1 ≤ d ∧ d ≤ 50 ∧ ∀ K : AExit → List Value → AH → Prop, K (.exit 0) [.pointer (some ⟨0, 0, none⟩), (.slice none 0 0)] (hxN (intsV zs) d) → ∃ R, iter 1 Tryz.prog SI1 [] noHooks 600 68 [0, 3, 11, 12, 13] [] [0, 3] [] (oneLoop (codeOf Tryz.f5) 3) R (vN 0 0) (hN (intsV zs) 1) K := by
  refine ⟨1, by omega, by omega, fun K hK => ⟨1, ?_⟩⟩
  exact it_mk 0 rfl ((tr0 (intsV zs) 1 0  _ K).mpr (pick_f (by decide) hK))
set_option maxRecDepth 20000 in
theorem ps1 (zs : List Int) : ∃ (p0 : Pt) (d : Int), p0.2 ∈ allN ∧  1 ≤ d ∧ d ≤ 50 ∧ ∀ K : AExit → List Value → AH → Prop, K (.exit 0) [.pointer (some ⟨0, 0, none⟩), (.slice (some ⟨1, 0, none⟩) 1 1)] (hxB (intsV zs) d [.int .i64 p0.1, .string (bl p0.2)]) → ∃ R, iter 1 Tryz.prog SI1 [] noHooks 600 68 [0, 3, 11, 12, 13] [] [0, 3] [] (oneLoop (codeOf Tryz.f5) 3) R (vN 1 0) (hN (intsV zs) 1) K := by
  obtain ⟨p0, e0, a0, b0, c0, x0⟩ := T_ex zs (d := 1) (by omega) (by omega) false (nm := [105, 100]) (by decide)
  refine ⟨p0, e0, a0, by omega, by omega, fun K hK => ⟨2, ?_⟩⟩
  refine it_mk 1 rfl ((tr0 (intsV zs) 1 1  _ K).mpr (pick_t (by decide) (pick_t (by decide) (x0 _ ?_))))
  show iter 1 Tryz.prog SI1 [] noHooks 600 68 [0, 3, 11, 12, 13] [] [0, 3] [] (oneLoop (codeOf Tryz.f5) 3) 1 (vB 1 1 1) (hB (intsV zs) e0 [.int .i64 p0.1, .string (bl p0.2)]) K
  exact it_mk 0 rfl ((tr1 (intsV zs) e0 1 p0.1 (bl p0.2) _ K).mpr (pick_f (by decide) hK))
set_option maxRecDepth 20000 in
theorem ps2 (zs : List Int) : ∃ (p0 p1 : Pt) (d : Int), p0.2 ∈ allN ∧ p1.2 ∈ allN ∧  1 ≤ d ∧ d ≤ 50 ∧ ∀ K : AExit → List Value → AH → Prop, K (.exit 0) [.pointer (some ⟨0, 0, none⟩), (.slice (some ⟨1, 0, none⟩) 2 2)] (hxB (intsV zs) d [.int .i64 p0.1, .string (bl p0.2), .int .i64 p1.1, .string (bl p1.2)]) → ∃ R, iter 1 Tryz.prog SI1 [] noHooks 600 68 [0, 3, 11, 12, 13] [] [0, 3] [] (oneLoop (codeOf Tryz.f5) 3) R (vN 2 0) (hN (intsV zs) 1) K := by
  obtain ⟨p0, e0, a0, b0, c0, x0⟩ := T_ex zs (d := 1) (by omega) (by omega) false (nm := [105, 100]) (by decide)
  obtain ⟨p1, e1, a1, b1, c1, x1⟩ := T_ex zs (d := e0) (by omega) (by omega) false (nm := [120]) (by decide)
  refine ⟨p0, p1, e1, a0, a1, by omega, by omega, fun K hK => ⟨3, ?_⟩⟩
  refine it_mk 2 rfl ((tr0 (intsV zs) 1 2  _ K).mpr (pick_t (by decide) (pick_t (by decide) (x0 _ ?_))))
  show iter 1 Tryz.prog SI1 [] noHooks 600 68 [0, 3, 11, 12, 13] [] [0, 3] [] (oneLoop (codeOf Tryz.f5) 3) 2 (vB 1 2 1) (hB (intsV zs) e0 [.int .i64 p0.1, .string (bl p0.2)]) K
  refine it_mk 1 rfl ((tr1 (intsV zs) e0 2 p0.1 (bl p0.2) _ K).mpr (pick_t (by decide) (pick_t (by decide) (x1 _ ?_))))
  show iter 1 Tryz.prog SI1 [] noHooks 600 68 [0, 3, 11, 12, 13] [] [0, 3] [] (oneLoop (codeOf Tryz.f5) 3) 1 (vB 2 2 2) (hB (intsV zs) e1 [.int .i64 p0.1, .string (bl p0.2), .int .i64 p1.1, .string (bl p1.2)]) K
  exact it_mk 0 rfl ((tr2 (intsV zs) e1 2 p0.1 (bl p0.2) p1.1 (bl p1.2) _ K).mpr (pick_f (by decide) hK))
set_option maxRecDepth 20000 in
theorem ps3 (zs : List Int) : ∃ (p0 p1 p2 : Pt) (d : Int), p0.2 ∈ allN ∧ p1.2 ∈ allN ∧ p2.2 ∈ allN ∧  1 ≤ d ∧ d ≤ 50 ∧ ∀ K : AExit → List Value → AH → Prop, K (.exit 0) [.pointer (some ⟨0, 0, none⟩), (.slice (some ⟨1, 0, none⟩) 3 3)] (hxB (intsV zs) d [.int .i64 p0.1, .string (bl p0.2), .int .i64 p1.1, .string (bl p1.2), .int .i64 p2.1, .string (bl p2.2)]) → ∃ R, iter 1 Tryz.prog SI1 [] noHooks 600 68 [0, 3, 11, 12, 13] [] [0, 3] [] (oneLoop (codeOf Tryz.f5) 3) R (vN 3 0) (hN (intsV zs) 1) K := by
  obtain ⟨p0, e0, a0, b0, c0, x0⟩ := T_ex zs (d := 1) (by omega) (by omega) false (nm := [105, 100]) (by decide)
  obtain ⟨p1, e1, a1, b1, c1, x1⟩ := T_ex zs (d := e0) (by omega) (by omega) false (nm := [120]) (by decide)
  obtain ⟨p2, e2, a2, b2, c2, x2⟩ := T_ex zs (d := e1) (by omega) (by omega) true (nm := [114, 101, 115, 116]) (by decide)
  refine ⟨p0, p1, p2, e2, a0, a1, a2, by omega, by omega, fun K hK => ⟨4, ?_⟩⟩
  refine it_mk 3 rfl ((tr0 (intsV zs) 1 3  _ K).mpr (pick_t (by decide) (pick_t (by decide) (x0 _ ?_))))
  show iter 1 Tryz.prog SI1 [] noHooks 600 68 [0, 3, 11, 12, 13] [] [0, 3] [] (oneLoop (codeOf Tryz.f5) 3) 3 (vB 1 3 1) (hB (intsV zs) e0 [.int .i64 p0.1, .string (bl p0.2)]) K
  refine it_mk 2 rfl ((tr1 (intsV zs) e0 3 p0.1 (bl p0.2) _ K).mpr (pick_t (by decide) (pick_t (by decide) (x1 _ ?_))))
  show iter 1 Tryz.prog SI1 [] noHooks 600 68 [0, 3, 11, 12, 13] [] [0, 3] [] (oneLoop (codeOf Tryz.f5) 3) 2 (vB 2 3 2) (hB (intsV zs) e1 [.int .i64 p0.1, .string (bl p0.2), .int .i64 p1.1, .string (bl p1.2)]) K
  refine it_mk 1 rfl ((tr2 (intsV zs) e1 3 p0.1 (bl p0.2) p1.1 (bl p1.2) _ K).mpr (pick_t (by decide) (pick_t (by decide) (x2 _ ?_))))
  show iter 1 Tryz.prog SI1 [] noHooks 600 68 [0, 3, 11, 12, 13] [] [0, 3] [] (oneLoop (codeOf Tryz.f5) 3) 1 (vB 3 3 3) (hB (intsV zs) e2 [.int .i64 p0.1, .string (bl p0.2), .int .i64 p1.1, .string (bl p1.2), .int .i64 p2.1, .string (bl p2.2)]) K
  exact it_mk 0 rfl ((tr3 (intsV zs) e2 p0.1 (bl p0.2) p1.1 (bl p1.2) p2.1 (bl p2.2) _ K).mpr hK)
theorem te1 (zs : List Int) {p0 : Pt} (hL : ∀ p ∈ [p0], p.2 ∈ allN) {d : Int} (h0 : 0 ≤ d) (h1 : d ≤ 1000) : ∃ (M : List Pt) (e : Int), (∀ p ∈ M, p.2 ∈ allN) ∧ M.length = 1 ∧ d ≤ e ∧ e ≤ d + 6 ∧ ∀ K : Array Value → Int → Prop, K ⟨M.flatMap ptC⟩ e → tlT (intsV zs) d 1 2 [.int .i64 p0.1, .string (bl p0.2)] K := by
  by_cases q1 : nextR (intsV zs) d 12 = 0
  · obtain ⟨k, e, a1, a2, a3⟩ := K2_ex zs (d := d + 1 + 1) (by omega) (by omega)
    have hn := nm_in (nextR (intsV zs) e 5) (nextR_spec zs 5 e (by omega) (by omega) (by omega) (by omega)).1.1 (nextR_spec zs 5 e (by omega) (by omega) (by omega) (by omega)).1.2
    have hb := (nextR_spec zs 1 (d + 1) (by omega) (by omega) (by omega) (by omega)).1
    have hj : nextR (intsV zs) (d + 1) 1 = 0 := by omega
    rcases hj with hj
    · refine ⟨[(k, (gS nmL (nextR (intsV zs) e 5)).data.toList)], e + 1, ?_, rfl, by omega, by omega, fun K hK => ?_⟩
      · intro p hp
        simp only [List.mem_cons, List.not_mem_nil, or_false] at hp
        rcases hp with rfl
        · exact hn
      · unfold tlT
        rw [hj]
        refine dr_mk h0 (by omega) (pick_t (by rw [q1]; rfl) (dr_mk (by omega) (by omega) (need_mk (by decide) (a3 _ ?_))))
        show dr _ _ _
        refine dr_mk (by omega) (by omega) (rg_mk (by omega) (by omega) rfl (by decide) (need_mk (by decide) (need_mk rfl ?_)))
        have e1 : (⟨List.flatMap ptC [(k, (gS nmL (nextR (intsV zs) e 5)).data.toList)]⟩ : Array Value) = putAll (putAll ⟨[.int .i64 p0.1, .string (bl p0.2)]⟩ (0 + (0 : Int).toNat * 2) [.int .i64 k]) (0 + (0 : Int).toNat * 2 + 1) [.string (gS nmL (nextR (intsV zs) e 5))] := by
          have := bl_self (gS nmL (nextR (intsV zs) e 5))
          generalize (gS nmL (nextR (intsV zs) e 5)) = w at this
          conv => rhs; rw [← this]
          rfl
        rw [← e1]
        exact hK
  · exact ⟨[p0], d + 1, hL, rfl, by omega, by omega, fun K hK => dr_mk h0 (by omega) (pick_f (beq_eq_false_iff_ne.2 q1) hK)⟩
theorem te2 (zs : List Int) {p0 p1 : Pt} (hL : ∀ p ∈ [p0, p1], p.2 ∈ allN) {d : Int} (h0 : 0 ≤ d) (h1 : d ≤ 1000) : ∃ (M : List Pt) (e : Int), (∀ p ∈ M, p.2 ∈ allN) ∧ M.length = 2 ∧ d ≤ e ∧ e ≤ d + 6 ∧ ∀ K : Array Value → Int → Prop, K ⟨M.flatMap ptC⟩ e → tlT (intsV zs) d 2 4 [.int .i64 p0.1, .string (bl p0.2), .int .i64 p1.1, .string (bl p1.2)] K := by
  by_cases q1 : nextR (intsV zs) d 12 = 0
  · obtain ⟨k, e, a1, a2, a3⟩ := K2_ex zs (d := d + 1 + 1) (by omega) (by omega)
    have hn := nm_in (nextR (intsV zs) e 5) (nextR_spec zs 5 e (by omega) (by omega) (by omega) (by omega)).1.1 (nextR_spec zs 5 e (by omega) (by omega) (by omega) (by omega)).1.2
    have hb := (nextR_spec zs 2 (d + 1) (by omega) (by omega) (by omega) (by omega)).1
    have hj : nextR (intsV zs) (d + 1) 2 = 0 ∨ nextR (intsV zs) (d + 1) 2 = 1 := by omega
    rcases hj with hj | hj
    · refine ⟨[(k, (gS nmL (nextR (intsV zs) e 5)).data.toList), p1], e + 1, ?_, rfl, by omega, by omega, fun K hK => ?_⟩
      · intro p hp
        simp only [List.mem_cons, List.not_mem_nil, or_false] at hp
        rcases hp with rfl | rfl
        · exact hn
        · exact hL _ (by simp)
      · unfold tlT
        rw [hj]
        refine dr_mk h0 (by omega) (pick_t (by rw [q1]; rfl) (dr_mk (by omega) (by omega) (need_mk (by decide) (a3 _ ?_))))
        show dr _ _ _
        refine dr_mk (by omega) (by omega) (rg_mk (by omega) (by omega) rfl (by decide) (need_mk (by decide) (need_mk rfl ?_)))
        have e1 : (⟨List.flatMap ptC [(k, (gS nmL (nextR (intsV zs) e 5)).data.toList), p1]⟩ : Array Value) = putAll (putAll ⟨[.int .i64 p0.1, .string (bl p0.2), .int .i64 p1.1, .string (bl p1.2)]⟩ (0 + (0 : Int).toNat * 2) [.int .i64 k]) (0 + (0 : Int).toNat * 2 + 1) [.string (gS nmL (nextR (intsV zs) e 5))] := by
          have := bl_self (gS nmL (nextR (intsV zs) e 5))
          generalize (gS nmL (nextR (intsV zs) e 5)) = w at this
          conv => rhs; rw [← this]
          rfl
        rw [← e1]
        exact hK
    · refine ⟨[p0, (k, (gS nmL (nextR (intsV zs) e 5)).data.toList)], e + 1, ?_, rfl, by omega, by omega, fun K hK => ?_⟩
      · intro p hp
        simp only [List.mem_cons, List.not_mem_nil, or_false] at hp
        rcases hp with rfl | rfl
        · exact hL _ (by simp)
        · exact hn
      · unfold tlT
        rw [hj]
        refine dr_mk h0 (by omega) (pick_t (by rw [q1]; rfl) (dr_mk (by omega) (by omega) (need_mk (by decide) (a3 _ ?_))))
        show dr _ _ _
        refine dr_mk (by omega) (by omega) (rg_mk (by omega) (by omega) rfl (by decide) (need_mk (by decide) (need_mk rfl ?_)))
        have e1 : (⟨List.flatMap ptC [p0, (k, (gS nmL (nextR (intsV zs) e 5)).data.toList)]⟩ : Array Value) = putAll (putAll ⟨[.int .i64 p0.1, .string (bl p0.2), .int .i64 p1.1, .string (bl p1.2)]⟩ (0 + (1 : Int).toNat * 2) [.int .i64 k]) (0 + (1 : Int).toNat * 2 + 1) [.string (gS nmL (nextR (intsV zs) e 5))] := by
          have := bl_self (gS nmL (nextR (intsV zs) e 5))
          generalize (gS nmL (nextR (intsV zs) e 5)) = w at this
          conv => rhs; rw [← this]
          rfl
        rw [← e1]
        exact hK
  · exact ⟨[p0, p1], d + 1, hL, rfl, by omega, by omega, fun K hK => dr_mk h0 (by omega) (pick_f (beq_eq_false_iff_ne.2 q1) hK)⟩
theorem te3 (zs : List Int) {p0 p1 p2 : Pt} (hL : ∀ p ∈ [p0, p1, p2], p.2 ∈ allN) {d : Int} (h0 : 0 ≤ d) (h1 : d ≤ 1000) : ∃ (M : List Pt) (e : Int), (∀ p ∈ M, p.2 ∈ allN) ∧ M.length = 3 ∧ d ≤ e ∧ e ≤ d + 6 ∧ ∀ K : Array Value → Int → Prop, K ⟨M.flatMap ptC⟩ e → tlT (intsV zs) d 3 6 [.int .i64 p0.1, .string (bl p0.2), .int .i64 p1.1, .string (bl p1.2), .int .i64 p2.1, .string (bl p2.2)] K := by
  by_cases q1 : nextR (intsV zs) d 12 = 0
  · obtain ⟨k, e, a1, a2, a3⟩ := K2_ex zs (d := d + 1 + 1) (by omega) (by omega)
    have hn := nm_in (nextR (intsV zs) e 5) (nextR_spec zs 5 e (by omega) (by omega) (by omega) (by omega)).1.1 (nextR_spec zs 5 e (by omega) (by omega) (by omega) (by omega)).1.2
    have hb := (nextR_spec zs 3 (d + 1) (by omega) (by omega) (by omega) (by omega)).1
    have hj : nextR (intsV zs) (d + 1) 3 = 0 ∨ nextR (intsV zs) (d + 1) 3 = 1 ∨ nextR (intsV zs) (d + 1) 3 = 2 := by omega
    rcases hj with hj | hj | hj
    · refine ⟨[(k, (gS nmL (nextR (intsV zs) e 5)).data.toList), p1, p2], e + 1, ?_, rfl, by omega, by omega, fun K hK => ?_⟩
      · intro p hp
        simp only [List.mem_cons, List.not_mem_nil, or_false] at hp
        rcases hp with rfl | rfl | rfl
        · exact hn
        · exact hL _ (by simp)
        · exact hL _ (by simp)
      · unfold tlT
        rw [hj]
        refine dr_mk h0 (by omega) (pick_t (by rw [q1]; rfl) (dr_mk (by omega) (by omega) (need_mk (by decide) (a3 _ ?_))))
        show dr _ _ _
        refine dr_mk (by omega) (by omega) (rg_mk (by omega) (by omega) rfl (by decide) (need_mk (by decide) (need_mk rfl ?_)))
        have e1 : (⟨List.flatMap ptC [(k, (gS nmL (nextR (intsV zs) e 5)).data.toList), p1, p2]⟩ : Array Value) = putAll (putAll ⟨[.int .i64 p0.1, .string (bl p0.2), .int .i64 p1.1, .string (bl p1.2), .int .i64 p2.1, .string (bl p2.2)]⟩ (0 + (0 : Int).toNat * 2) [.int .i64 k]) (0 + (0 : Int).toNat * 2 + 1) [.string (gS nmL (nextR (intsV zs) e 5))] := by
          have := bl_self (gS nmL (nextR (intsV zs) e 5))
          generalize (gS nmL (nextR (intsV zs) e 5)) = w at this
          conv => rhs; rw [← this]
          rfl
        rw [← e1]
        exact hK
    · refine ⟨[p0, (k, (gS nmL (nextR (intsV zs) e 5)).data.toList), p2], e + 1, ?_, rfl, by omega, by omega, fun K hK => ?_⟩
      · intro p hp
        simp only [List.mem_cons, List.not_mem_nil, or_false] at hp
        rcases hp with rfl | rfl | rfl
        · exact hL _ (by simp)
        · exact hn
        · exact hL _ (by simp)
      · unfold tlT
        rw [hj]
        refine dr_mk h0 (by omega) (pick_t (by rw [q1]; rfl) (dr_mk (by omega) (by omega) (need_mk (by decide) (a3 _ ?_))))
        show dr _ _ _
        refine dr_mk (by omega) (by omega) (rg_mk (by omega) (by omega) rfl (by decide) (need_mk (by decide) (need_mk rfl ?_)))
        have e1 : (⟨List.flatMap ptC [p0, (k, (gS nmL (nextR (intsV zs) e 5)).data.toList), p2]⟩ : Array Value) = putAll (putAll ⟨[.int .i64 p0.1, .string (bl p0.2), .int .i64 p1.1, .string (bl p1.2), .int .i64 p2.1, .string (bl p2.2)]⟩ (0 + (1 : Int).toNat * 2) [.int .i64 k]) (0 + (1 : Int).toNat * 2 + 1) [.string (gS nmL (nextR (intsV zs) e 5))] := by
          have := bl_self (gS nmL (nextR (intsV zs) e 5))
          generalize (gS nmL (nextR (intsV zs) e 5)) = w at this
          conv => rhs; rw [← this]
          rfl
        rw [← e1]
        exact hK
    · refine ⟨[p0, p1, (k, (gS nmL (nextR (intsV zs) e 5)).data.toList)], e + 1, ?_, rfl, by omega, by omega, fun K hK => ?_⟩
      · intro p hp
        simp only [List.mem_cons, List.not_mem_nil, or_false] at hp
        rcases hp with rfl | rfl | rfl
        · exact hL _ (by simp)
        · exact hL _ (by simp)
        · exact hn
      · unfold tlT
        rw [hj]
        refine dr_mk h0 (by omega) (pick_t (by rw [q1]; rfl) (dr_mk (by omega) (by omega) (need_mk (by decide) (a3 _ ?_))))
        show dr _ _ _
        refine dr_mk (by omega) (by omega) (rg_mk (by omega) (by omega) rfl (by decide) (need_mk (by decide) (need_mk rfl ?_)))
        have e1 : (⟨List.flatMap ptC [p0, p1, (k, (gS nmL (nextR (intsV zs) e 5)).data.toList)]⟩ : Array Value) = putAll (putAll ⟨[.int .i64 p0.1, .string (bl p0.2), .int .i64 p1.1, .string (bl p1.2), .int .i64 p2.1, .string (bl p2.2)]⟩ (0 + (2 : Int).toNat * 2) [.int .i64 k]) (0 + (2 : Int).toNat * 2 + 1) [.string (gS nmL (nextR (intsV zs) e 5))] := by
          have := bl_self (gS nmL (nextR (intsV zs) e 5))
          generalize (gS nmL (nextR (intsV zs) e 5)) = w at this
          conv => rhs; rw [← this]
          rfl
        rw [← e1]
        exact hK
  · exact ⟨[p0, p1, p2], d + 1, hL, rfl, by omega, by omega, fun K hK => dr_mk h0 (by omega) (pick_f (beq_eq_false_iff_ne.2 q1) hK)⟩
/-- Parts as they are drawn, and where the stream stands then. -/
def TpOK (xs : Array Value) (q : List Pt × Int) : Prop := Ln q.1 ∧ 0 ≤ q.2 ∧ q.2 ≤ 100 ∧
  FnOK 1 Tryz.prog 5 ⟨[.pointer (some ⟨0, 0, none⟩)]⟩ (Ev.h1 (strm xs 0)) (fun u g => u = fz ⟨q.1.map ptV⟩ ∧ g.get 0 = some (strm xs q.2))
theorem freezeQ {p : Nat} {P : Program} {h : AH} {b : Nat} {t : TypeId} {fr : Nat × Nat} (L : List Pt) {m : Nat} (hm : L.length = m) (hb : h.get b = some (.cells ⟨L.flatMap ptC⟩ t fr)) :
    Weak p P #[.slice (some ⟨b, 0, none⟩) m m] h #[fz ⟨L.map ptV⟩] (h.del b) := by
  have hlen : (L.flatMap ptC).length = L.length * 2 := flat_len L
  refine Weak.freeze (n := m) (cap := m) b 2 ⟨L.map ptV⟩ hb (fun v hv => p1_ptC L v hv) (by simpa using hm) (Nat.le_refl _) (by show m * 2 ≤ (L.flatMap ptC).length; omega) ?_ (fun i j x v => freeze_cells L) rfl ?_
  · intro i x hx
    have hx : (L.map ptV)[i]? = some x := by simpa using hx
    rw [List.getElem?_map] at hx
    obtain ⟨q, _, rfl⟩ := Option.map_eq_some_iff.1 hx
    rfl
  · intro i
    match i with
    | 0 => exact .inr ⟨rfl, rfl⟩
    | i + 1 => exact .inl (by simp)
theorem tp0 (zs : List Int) (hr : nextR (intsV zs) 0 4 = 0) : ∃ q, TpOK (intsV zs) q := by
  obtain ⟨d, d0, d1, hK⟩ := ps0 zs
  refine ⟨([], d), ⟨Nat.zero_le _, fun p hp => by cases hp⟩, by show 0 ≤ d; omega, by show d ≤ 100; omega, ?_⟩
  have hsp : LSpec 1 Tryz.prog 68 (oneLoop (codeOf Tryz.f5) 3) (hookLS 1 68 [0, 3, 11, 12, 13] [] [0, 3] (fun vals h K => (vals = vN 0 0 ∧ h = hN (intsV zs) 1) ∧ K (.exit 0) [.pointer (some ⟨0, 0, none⟩), (.slice none 0 0)] (hxN (intsV zs) d))) := by
    refine hook_ok (G := []) (L := noHooks) (f := 600) (sameX := []) SI1_ok mixed (by decide) (loops_none _ _ _ _) ?_
    rintro vals h K ⟨⟨rfl, rfl⟩, hQ⟩
    exact hK K hQ
  have hF := FnOK.ttree (SR1_ok 0) mixed Tryz.func5 someTP (loops_one oneTP hsp) (tl0 (intsV zs) d  _ (fun v o o2 => v = .slice none 0 0 ∧ o = some (strm (intsV zs) d) ∧ o2 = some (strm (intsV zs) d))) (need_mk (by rw [hr, allInts_intsV]; rfl) ⟨⟨rfl, rfl⟩, ⟨rfl, rfl, rfl⟩⟩)
  refine FnOK.weak1 (hF.mono ?_)
  rintro v g ⟨rfl, h0, h1⟩
  exact ⟨_, _, nil1, rfl, h0⟩
theorem tp1 (zs : List Int) (hr : nextR (intsV zs) 0 4 = 1) : ∃ q, TpOK (intsV zs) q := by
  obtain ⟨p0, d, a0, d0, d1, hK⟩ := ps1 zs
  obtain ⟨M, e, m1, m2, m3, m4, m5⟩ := te1 zs (p0 := p0) (d := d) (fun p hp => by
    simp only [List.mem_cons, List.not_mem_nil, or_false] at hp
    rcases hp with rfl
    · exact a0) (by omega) (by omega)
  refine ⟨(M, e), ⟨by show M.length ≤ 3; omega, m1⟩, by show 0 ≤ e; omega, by show e ≤ 100; omega, ?_⟩
  have hsp : LSpec 1 Tryz.prog 68 (oneLoop (codeOf Tryz.f5) 3) (hookLS 1 68 [0, 3, 11, 12, 13] [] [0, 3] (fun vals h K => (vals = vN 1 0 ∧ h = hN (intsV zs) 1) ∧ K (.exit 0) [.pointer (some ⟨0, 0, none⟩), (.slice (some ⟨1, 0, none⟩) 1 1)] (hxB (intsV zs) d [.int .i64 p0.1, .string (bl p0.2)]))) := by
    refine hook_ok (G := []) (L := noHooks) (f := 600) (sameX := []) SI1_ok mixed (by decide) (loops_none _ _ _ _) ?_
    rintro vals h K ⟨⟨rfl, rfl⟩, hQ⟩
    exact hK K hQ
  have hF := FnOK.ttree (SR1_ok 1) mixed Tryz.func5 someTP (loops_one oneTP hsp) (tl1 (intsV zs) d p0.1 (bl p0.2) _ (fun v o o2 => v = .slice (some ⟨1, 0, none⟩) 1 1 ∧ o = some (strm (intsV zs) e) ∧ o2 = some (.cells ⟨M.flatMap ptC⟩ 40 (0, 0)))) (need_mk (by rw [hr, allInts_intsV]; rfl) ⟨⟨rfl, rfl⟩, m5 _ ⟨rfl, rfl, rfl⟩⟩)
  refine FnOK.weak1 (hF.mono ?_)
  rintro v g ⟨rfl, h0, h1⟩
  exact ⟨_, _, freezeQ M m2 h1, rfl, (del_ne (by decide)).trans h0⟩
theorem tp2 (zs : List Int) (hr : nextR (intsV zs) 0 4 = 2) : ∃ q, TpOK (intsV zs) q := by
  obtain ⟨p0, p1, d, a0, a1, d0, d1, hK⟩ := ps2 zs
  obtain ⟨M, e, m1, m2, m3, m4, m5⟩ := te2 zs (p0 := p0) (p1 := p1) (d := d) (fun p hp => by
    simp only [List.mem_cons, List.not_mem_nil, or_false] at hp
    rcases hp with rfl | rfl
    · exact a0
    · exact a1) (by omega) (by omega)
  refine ⟨(M, e), ⟨by show M.length ≤ 3; omega, m1⟩, by show 0 ≤ e; omega, by show e ≤ 100; omega, ?_⟩
  have hsp : LSpec 1 Tryz.prog 68 (oneLoop (codeOf Tryz.f5) 3) (hookLS 1 68 [0, 3, 11, 12, 13] [] [0, 3] (fun vals h K => (vals = vN 2 0 ∧ h = hN (intsV zs) 1) ∧ K (.exit 0) [.pointer (some ⟨0, 0, none⟩), (.slice (some ⟨1, 0, none⟩) 2 2)] (hxB (intsV zs) d [.int .i64 p0.1, .string (bl p0.2), .int .i64 p1.1, .string (bl p1.2)]))) := by
    refine hook_ok (G := []) (L := noHooks) (f := 600) (sameX := []) SI1_ok mixed (by decide) (loops_none _ _ _ _) ?_
    rintro vals h K ⟨⟨rfl, rfl⟩, hQ⟩
    exact hK K hQ
  have hF := FnOK.ttree (SR1_ok 2) mixed Tryz.func5 someTP (loops_one oneTP hsp) (tl2 (intsV zs) d p0.1 (bl p0.2) p1.1 (bl p1.2) _ (fun v o o2 => v = .slice (some ⟨1, 0, none⟩) 2 2 ∧ o = some (strm (intsV zs) e) ∧ o2 = some (.cells ⟨M.flatMap ptC⟩ 40 (0, 0)))) (need_mk (by rw [hr, allInts_intsV]; rfl) ⟨⟨rfl, rfl⟩, m5 _ ⟨rfl, rfl, rfl⟩⟩)
  refine FnOK.weak1 (hF.mono ?_)
  rintro v g ⟨rfl, h0, h1⟩
  exact ⟨_, _, freezeQ M m2 h1, rfl, (del_ne (by decide)).trans h0⟩
theorem tp3 (zs : List Int) (hr : nextR (intsV zs) 0 4 = 3) : ∃ q, TpOK (intsV zs) q := by
  obtain ⟨p0, p1, p2, d, a0, a1, a2, d0, d1, hK⟩ := ps3 zs
  obtain ⟨M, e, m1, m2, m3, m4, m5⟩ := te3 zs (p0 := p0) (p1 := p1) (p2 := p2) (d := d) (fun p hp => by
    simp only [List.mem_cons, List.not_mem_nil, or_false] at hp
    rcases hp with rfl | rfl | rfl
    · exact a0
    · exact a1
    · exact a2) (by omega) (by omega)
  refine ⟨(M, e), ⟨by show M.length ≤ 3; omega, m1⟩, by show 0 ≤ e; omega, by show e ≤ 100; omega, ?_⟩
  have hsp : LSpec 1 Tryz.prog 68 (oneLoop (codeOf Tryz.f5) 3) (hookLS 1 68 [0, 3, 11, 12, 13] [] [0, 3] (fun vals h K => (vals = vN 3 0 ∧ h = hN (intsV zs) 1) ∧ K (.exit 0) [.pointer (some ⟨0, 0, none⟩), (.slice (some ⟨1, 0, none⟩) 3 3)] (hxB (intsV zs) d [.int .i64 p0.1, .string (bl p0.2), .int .i64 p1.1, .string (bl p1.2), .int .i64 p2.1, .string (bl p2.2)]))) := by
    refine hook_ok (G := []) (L := noHooks) (f := 600) (sameX := []) SI1_ok mixed (by decide) (loops_none _ _ _ _) ?_
    rintro vals h K ⟨⟨rfl, rfl⟩, hQ⟩
    exact hK K hQ
  have hF := FnOK.ttree (SR1_ok 3) mixed Tryz.func5 someTP (loops_one oneTP hsp) (tl3 (intsV zs) d p0.1 (bl p0.2) p1.1 (bl p1.2) p2.1 (bl p2.2) _ (fun v o o2 => v = .slice (some ⟨1, 0, none⟩) 3 3 ∧ o = some (strm (intsV zs) e) ∧ o2 = some (.cells ⟨M.flatMap ptC⟩ 40 (0, 0)))) (need_mk (by rw [hr, allInts_intsV]; rfl) ⟨⟨rfl, rfl⟩, m5 _ ⟨rfl, rfl, rfl⟩⟩)
  refine FnOK.weak1 (hF.mono ?_)
  rintro v g ⟨rfl, h0, h1⟩
  exact ⟨_, _, freezeQ M m2 h1, rfl, (del_ne (by decide)).trans h0⟩
theorem tp_ex (zs : List Int) : ∃ q, TpOK (intsV zs) q := by
  have hb := (nextR_spec zs 4 0 (by omega) (by omega) (by omega) (by omega)).1
  have hj : nextR (intsV zs) 0 4 = 0 ∨ nextR (intsV zs) 0 4 = 1 ∨ nextR (intsV zs) 0 4 = 2 ∨ nextR (intsV zs) 0 4 = 3 := by omega
  rcases hj with hj | hj | hj | hj
  · exact tp0 zs hj
  · exact tp1 zs hj
  · exact tp2 zs hj
  · exact tp3 zs hj
open Classical in
noncomputable def tpC (xs : Array Value) : List Pt × Int := if h : ∃ q, TpOK xs q then h.choose else ([], 0)
theorem tpC_ok (zs : List Int) : TpOK (intsV zs) (tpC (intsV zs)) := by
  have h := tp_ex zs
  unfold tpC
  rw [dif_pos h]
  exact h.choose_spec
end Go.Proofs.YtklcapmmogediaaGreatDoor
