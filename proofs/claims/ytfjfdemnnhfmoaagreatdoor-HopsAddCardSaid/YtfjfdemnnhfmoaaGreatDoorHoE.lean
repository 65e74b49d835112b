/-
  Headers: right headers and right requests, as they are drawn.
-/
import Derived.Test.YtfjfdemnnhfmoaaGreatDoorHoD
import Derived.Test.YtfjfdemnnhfmoaaGreatDoorHeadR
namespace Go.Proofs.YtfjfdemnnhfmoaaGreatDoor
open Go.Ev Go.RowKit RecLaw PathLaw HopLaw

def gS (l : List Value) (r : Int) : ByteArray := toStr (l.getD (0 + r.toNat * 1) (Value.tuple { toList := [] }))
def gI (l : List Value) (r : Int) : Int := toInt (l.getD (0 + r.toNat * 1) (Value.tuple { toList := [] }))
noncomputable def dr (xs : Array Value) (d : Int) (X : Prop) : Prop := bif decide (0 ≤ d) && decide (d ≤ 1000000) && true && true && true && allInts xs then X else False
noncomputable def rg (r m : Int) (k : Nat) (X : Prop) : Prop := bif decide (0 ≤ r) && decide (r < m) then bif (0 + r.toNat * 1).blt k then X else False else False
theorem dr_mk {zs : List Int} {d : Int} (h0 : 0 ≤ d) (h1 : d ≤ 1000000) {X : Prop} (hX : X) : dr (intsV zs) d X := need_mk (by rw [allInts_intsV]; simp [h0, h1]) hX
theorem rg_mk {zs : List Int} {d m : Int} {k : Nat} (h0 : 0 ≤ d) (h1 : d ≤ 1000000) (hm : m = (k : Int)) (hk : 1 ≤ m ∧ m ≤ 100) {X : Prop} (hX : X) : rg (nextR (intsV zs) d m) m k X := by
  have hb := (nextR_spec zs m d h0 h1 hk.1 (by omega)).1
  refine need_mk (by simp [hb.1, hb.2]) (need_mk ?_ hX)
  rw [Nat.blt, Nat.ble_eq]; omega
/-! RightHeaders -/
noncomputable def rhL (xs : Array Value) (d : Int) : List (ByteArray × ByteArray) := drawnH xs (d + 1) (nextR xs d 5).toNat
noncomputable def rhE (xs : Array Value) (d : Int) : Int := d + 1 + 2 * nextR xs d 5
theorem rh_any (zs : List Int) (d : Int) (h0 : 0 ≤ d) (h1 : d ≤ 100000) : FnOK 1 Tryz.prog 58 ⟨[.pointer (some ⟨0, 0, none⟩), .int .i64 4]⟩ (Ev.h1 (strm (intsV zs) d)) (fun u g => u = fz ⟨(rhL (intsV zs) d).map hv⟩ ∧ g.get 0 = some (strm (intsV zs) (rhE (intsV zs) d))) := by
  have hb := (nextR_spec zs 5 d h0 (by omega) (by omega) (by omega)).1
  have hc : nextR (intsV zs) d 5 = 0 ∨ nextR (intsV zs) d 5 = 1 ∨ nextR (intsV zs) d 5 = 2 ∨ nextR (intsV zs) d 5 = 3 ∨ nextR (intsV zs) d 5 = 4 := by omega
  unfold rhL rhE
  rcases hc with h | h | h | h | h
  · refine FnOK.weak1 ((rheads0 zs d h0 h1 h).mono ?_)
    rintro v g ⟨rfl, q⟩
    exact ⟨_, _, nil1, by rw [h]; rfl, by rw [q, h]; congr 2; omega⟩
  · refine (rheads1 zs d h0 h1 h).mono ?_
    rintro v g ⟨rfl, q⟩
    exact ⟨by rw [h]; rfl, by rw [q, h]; congr 2; omega⟩
  · refine (rheads2 zs d h0 h1 h).mono ?_
    rintro v g ⟨rfl, q⟩
    exact ⟨by rw [h]; rfl, by rw [q, h]; congr 2; omega⟩
  · refine (rheads3 zs d h0 h1 h).mono ?_
    rintro v g ⟨rfl, q⟩
    exact ⟨by rw [h]; rfl, by rw [q, h]; congr 2; omega⟩
  · refine (rheads4 zs d h0 h1 h).mono ?_
    rintro v g ⟨rfl, q⟩
    exact ⟨by rw [h]; rfl, by rw [q, h]; congr 2; omega⟩
theorem rh_in (zs : List Int) {d : Int} (h0 : 0 ≤ d) (h1 : d ≤ 100000) : (rhL (intsV zs) d).length ≤ 4 ∧ d + 1 ≤ rhE (intsV zs) d ∧ rhE (intsV zs) d ≤ d + 9 := by
  have hb := (nextR_spec zs 5 d h0 (by omega) (by omega) (by omega)).1
  unfold rhL rhE
  rw [drawnH_len]
  omega
noncomputable def spRh (f : FuncId) (args : Array Value) (h : AH) : Option (Bool × Value × AH) :=
  cond (Nat.beq f 58) (match args with
    | ⟨[.pointer (some ⟨b, 0, none⟩), .int .i64 m]⟩ => match h.get b with
      | some (.cells ⟨[.func (.yield 0) xs ⟨[]⟩, .int .i64 at_]⟩ t (0, 0)) =>
        some (decide (m = 4) && Nat.beq t 25 && decide (0 ≤ at_) && decide (at_ ≤ 100000) && allInts xs, fz ⟨(rhL xs at_).map hv⟩, h.set b (.cells ⟨[fz xs, .int .i64 (rhE xs at_)]⟩ 25 (0, 0)))
      | _ => none
    | _ => none) none
theorem spRh_ok : SpOK spRh := by
  intro f args h v h' hs
  unfold spRh at hs
  obtain ⟨hf, hs2⟩ := cond_some hs
  clear hs
  have := Nat.eq_of_beq_eq_true hf
  subst this
  split at hs2
  · rename_i b m
    split at hs2
    · rename_i xs at_ t hg
      injection hs2 with hs
      injection hs with hb hs
      injection hs with hv hh
      subst hv hh
      simp only [Bool.and_eq_true, decide_eq_true_eq] at hb
      obtain ⟨⟨⟨⟨rfl, b1⟩, b2⟩, b3⟩, b4⟩ := hb
      have b1 := Nat.eq_of_beq_eq_true b1
      subst b1
      obtain ⟨zs, rfl⟩ := intsV_of_all b4
      refine ⟨?_, Nat.le_refl _⟩
      exact FnOK.ref (cs := ⟨[fz (intsV zs), .int .i64 at_]⟩) (cs' := ⟨[fz (intsV zs), .int .i64 (rhE (intsV zs) at_)]⟩) (args := [.int .i64 4]) (rh_any zs at_ b2 b3) rfl (by simp [p1, fz]) (by simp [p1, fz]) rfl hg
    · cases hs2
  · cases hs2

theorem drawn_in (zs : List Int) : ∀ (n : Nat) (e : Int), 0 ≤ e → e + 2 * n ≤ 100000 → ∀ p ∈ drawnH (intsV zs) e n, inU namesU p.1 = true ∧ okVal p.2 = true
  | 0, e, _, _, p, hp => by cases hp
  | n + 1, e, h0, h1, p, hp => by
    have b := (nextR_spec zs 11 e h0 (by omega) (by omega) (by omega)).1
    have c := (nextR_spec zs 8 (e + 1) (by omega) (by omega) (by omega) (by omega)).1
    rcases List.mem_cons.1 hp with rfl | hp
    · exact ⟨nmV_in _ b.1 b.2, vlV_in _ c.1 c.2⟩
    · exact drawn_in zs n (e + 1 + 1) (by omega) (by omega) p hp
theorem rhL_in (zs : List Int) {d : Int} (h0 : 0 ≤ d) (h1 : d ≤ 90000) : ∀ p ∈ rhL (intsV zs) d, inU namesU p.1 = true ∧ okVal p.2 = true := by
  have hb := (nextR_spec zs 5 d h0 (by omega) (by omega) (by omega)).1
  exact drawn_in zs _ _ (by omega) (by omega)
/-! RightRequest -/
def raS : ByteArray := bl (Lib.repeatL [97, 98] 40)
noncomputable def spRa (f : FuncId) (args : Array Value) (h : AH) : Option (Bool × Value × AH) :=
  cond (Nat.beq f 20) (match args with
    | ⟨[.string s, .int .i64 n]⟩ => some (s.data.toList == [97, 98] && decide (n = 40), .string raS, h)
    | _ => none) none
theorem spRa_ok : SpOK spRa := by
  intro f args h v h' hs
  unfold spRa at hs
  obtain ⟨hf, hs2⟩ := cond_some hs
  clear hs
  have := Nat.eq_of_beq_eq_true hf
  subst this
  split at hs2
  · injection hs2 with hs
    injection hs with hb hs
    injection hs with hv hh
    subst hv hh
    rename_i s n
    simp only [Bool.and_eq_true, decide_eq_true_eq] at hb
    obtain ⟨b1, rfl⟩ := hb
    have e : s = bl [97, 98] := by rw [← bl_self s, eq_of_beq b1]
    subst e
    exact ⟨flat_call (args := [.string (bl [97, 98]), .int .i64 40]) rfl rfl fun w => Tryz.strings_Repeat (bl [97, 98]) 40 w (by omega) (by rw [bl_size]; decide), Nat.le_refl _⟩
  · cases hs2
noncomputable def SRr : SC := ⟨idn, spOr spRa (spOr spRh (spNext [])), true, true⟩
theorem SRr_ok : SRr.cfg.OK Tryz.prog := (spRa_ok.or (spRh_ok.or (spNext_ok []))).cfg
def atL : List Value := [.int .i64 0, .int .i64 5, .int .i64 1000, .int .i64 60000]
def meL : List Value := [.string ⟨#[71, 69, 84]⟩, .string ⟨#[71, 69, 84]⟩, .string ⟨#[71, 69, 84]⟩, .string ⟨#[72, 69, 65, 68]⟩, .string ⟨#[80, 79, 83, 84]⟩, .string ⟨#[103, 101, 116]⟩]
def hoL : List Value := [.string ⟨#[97, 46, 98]⟩, .string ⟨#[97, 46, 98]⟩, .string ⟨#[65, 46, 66]⟩, .string ⟨#[97, 46, 98, 58, 56, 48]⟩, .string ⟨#[99, 46, 100, 58, 56, 48, 56, 48]⟩]
def paL : List Value := [.string ⟨#[47]⟩, .string ⟨#[47, 97]⟩, .string ⟨#[47, 97]⟩, .string ⟨#[47, 97, 47, 98]⟩, .string ⟨#[47, 97, 47, 46, 46, 47, 98]⟩, .string ⟨#[47, 37, 52, 49]⟩]
def quL : List Value := [.string ⟨#[]⟩, .string ⟨#[]⟩, .string ⟨#[120, 61, 49]⟩, .string ⟨#[98, 61, 50, 38, 97, 61, 49]⟩]
def frL : List Value := [.string ⟨#[49, 48, 46, 48, 46, 48, 46, 49]⟩, .string ⟨#[49, 48, 46, 48, 46, 48, 46, 49]⟩, .string ⟨#[57, 46, 57, 46, 57, 46, 57]⟩, .string ⟨#[]⟩]
def boL : List Value := [.string ⟨#[104, 101, 108, 108, 111]⟩, .string ⟨#[120]⟩, .string raS]
noncomputable def rqD (xs : Array Value) (d : Int) (b : ByteArray) : Value :=
  rqV (gI atL (nextR xs d 4)) (gS meL (nextR xs (d + 1) 6)) (gS hoL (nextR xs (d + 1 + 1) 5)) (gS paL (nextR xs (d + 1 + 1 + 1) 6)) (gS quL (nextR xs (d + 1 + 1 + 1 + 1) 4)) (gS frL (nextR xs (d + 1 + 1 + 1 + 1 + 1) 4)) (rhL xs (d + 1 + 1 + 1 + 1 + 1 + 1)) b
noncomputable def rrT (xs : Array Value) (d : Int) (Q : Value → Option Obj → Prop) : Prop :=
  dr xs d (rg (nextR xs d 4) 4 4 (dr xs (d + 1) (rg (nextR xs (d + 1) 6) 6 6 (dr xs (d + 1 + 1) (rg (nextR xs (d + 1 + 1) 5) 5 5 (dr xs (d + 1 + 1 + 1) (rg (nextR xs (d + 1 + 1 + 1) 6) 6 6
  (dr xs (d + 1 + 1 + 1 + 1) (rg (nextR xs (d + 1 + 1 + 1 + 1) 4) 4 4 (dr xs (d + 1 + 1 + 1 + 1 + 1) (rg (nextR xs (d + 1 + 1 + 1 + 1 + 1) 4) 4 4
  (bif decide (0 ≤ d + 1 + 1 + 1 + 1 + 1 + 1) && decide (d + 1 + 1 + 1 + 1 + 1 + 1 ≤ 100000) && allInts xs then
    dr xs (rhE xs (d + 1 + 1 + 1 + 1 + 1 + 1)) (bif nextR xs (rhE xs (d + 1 + 1 + 1 + 1 + 1 + 1)) 4 == 0 then
      dr xs (rhE xs (d + 1 + 1 + 1 + 1 + 1 + 1) + 1) (rg (nextR xs (rhE xs (d + 1 + 1 + 1 + 1 + 1 + 1) + 1) 3) 3 3 (Q (rqD xs d (gS boL (nextR xs (rhE xs (d + 1 + 1 + 1 + 1 + 1 + 1) + 1) 3))) (some (strm xs (rhE xs (d + 1 + 1 + 1 + 1 + 1 + 1) + 1 + 1)))))
      else Q (rqD xs d ⟨#[]⟩) (some (strm xs (rhE xs (d + 1 + 1 + 1 + 1 + 1 + 1) + 1))))
  else False))))))))))))
theorem rr (xs : Array Value) (d : Int) (Q : Value → Option Obj → Prop) : ffn Tryz.prog SRr [] 3000 [] Tryz.f17 [.pointer (some ⟨0, 0, none⟩)] (Ev.h1 (strm xs d)) (fun v h => Q v (h.get 0)) = rrT xs d Q := by kernel_rfl
end Go.Proofs.YtfjfdemnnhfmoaaGreatDoor
