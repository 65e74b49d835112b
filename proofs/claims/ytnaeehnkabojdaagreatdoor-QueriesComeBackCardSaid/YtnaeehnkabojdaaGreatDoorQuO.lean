/-
  Paths: paths as they are drawn.
-/
import Derived.Test.YtnaeehnkabojdaaGreatDoorQuN
namespace Go.Proofs.YtnaeehnkabojdaaGreatDoor
open Go.Ev Go.RowKit RecLaw PathLaw QueryLaw

def gS (l : List Value) (r : Int) : ByteArray := toStr (l.getD (0 + r.toNat * 1) (Value.tuple { toList := [] }))
noncomputable def dr (xs : Array Value) (d : Int) (X : Prop) : Prop := bif decide (0 ≤ d) && decide (d ≤ 1000000) && true && true && true && allInts xs then X else False
noncomputable def rg (r m : Int) (k : Nat) (X : Prop) : Prop := bif decide (0 ≤ r) && decide (r < m) then bif (0 + r.toNat * 1).blt k then X else False else False
theorem dr_mk {zs : List Int} {d : Int} (h0 : 0 ≤ d) (h1 : d ≤ 1000000) {X : Prop} (hX : X) : dr (intsV zs) d X := need_mk (by rw [allInts_intsV]; simp [h0, h1]) hX
theorem rg_mk {zs : List Int} {d m : Int} {k : Nat} (h0 : 0 ≤ d) (h1 : d ≤ 1000000) (hm : m = (k : Int)) (hk : 1 ≤ m ∧ m ≤ 100) {X : Prop} (hX : X) : rg (nextR (intsV zs) d m) m k X := by
  have hb := (nextR_spec zs m d h0 h1 hk.1 (by omega)).1
  refine need_mk (by simp [hb.1, hb.2]) (need_mk ?_ hX)
  rw [Nat.blt, Nat.ble_eq]; omega
theorem app_len (a b : ByteArray) : (a ++ b).size = a.size + b.size := ByteArray.size_append

/-! Repeat -/
def rpS : ByteArray := bl (Lib.repeatL [37, 50, 48] 340)
noncomputable def spRp (f : FuncId) (args : Array Value) (h : AH) : Option (Bool × Value × AH) :=
  cond (Nat.beq f 47) (match args with
    | ⟨[.string s, .int .i64 n]⟩ => some (s.data.toList == [37, 50, 48] && decide (n = 340), .string rpS, h)
    | _ => none) none
theorem spRp_ok : SpOK spRp := by
  intro f args h v h' hs
  unfold spRp at hs
  obtain ⟨hf, hs2⟩ := cond_some hs
  clear hs
  have := Nat.eq_of_beq_eq_true hf
  subst this
  split at hs2
  · rename_i s n
    injection hs2 with hs
    injection hs with hb hs
    injection hs with hv hh
    subst hv hh
    simp only [Bool.and_eq_true, decide_eq_true_eq] at hb
    obtain ⟨b1, rfl⟩ := hb
    have e : s = bl [37, 50, 48] := by rw [← bl_self s, eq_of_beq b1]
    subst e
    exact ⟨flat_call (args := [.string (bl [37, 50, 48]), .int .i64 340]) rfl rfl fun w => Tryz.strings_Repeat (bl [37, 50, 48]) 340 w (by omega) (by rw [bl_size]; decide), Nat.le_refl _⟩
  · cases hs2
theorem rpS_len : rpS.size = 1020 := by unfold rpS; rw [bl_size]; decide +kernel
def rpOk : Bool := Nat.ble (1 + rpS.size) 1000000
theorem rpOk_t : rpOk = true := by
  unfold rpOk
  rw [rpS_len]
  rfl

/-! Changed -/
noncomputable def SCg : SC := ⟨idn, spNext [], true, true⟩
theorem SCg_ok : SCg.cfg.OK Tryz.prog := (spNext_ok []).cfg
def wB : ByteArray := ⟨#[47, 46, 37, 50, 102, 65]⟩
noncomputable def encC (xs : Array Value) (d : Int) : ByteArray := Utf8.encode (IntKind.i32.wrap ((((ByteArray.mk #[47, 46, 37, 50, 102, 65]).data.toList.getD (nextR xs d 6).toNat 0).toNat : Nat) : Int))
noncomputable def cutL (s : ByteArray) (i : Int) (K : ByteArray → Prop) : Prop := bif decide (0 ≤ i) && decide (i ≤ (s.size : Int)) then K (s.extract 0 i.toNat) else False
noncomputable def cutR (s : ByteArray) (i : Int) (K : ByteArray → Prop) : Prop := bif decide (0 ≤ i) && decide (i ≤ (s.size : Int)) && decide ((s.size : Int) ≤ (s.size : Int)) then K (s.extract i.toNat (s.size : Int).toNat) else False
noncomputable def put (a b : ByteArray) (K : ByteArray → Prop) : Prop := bif Nat.ble (a.size + b.size) 1000000 then K (a ++ b) else False
noncomputable def cgT (xs : Array Value) (d : Int) (s : ByteArray) (Q : Value → Option Obj → Prop) : Prop :=
  bif s.toList == (ByteArray.mk #[]).toList then Q (.string wB) (some (strm xs d)) else
    bif decide (0 ≤ d) && decide (d ≤ 1000000) && decide (1 ≤ (s.size : Int)) && decide ((s.size : Int) ≤ 1000000000000) && true && allInts xs then
      dr xs (d + 1) (bif decide (0 ≤ nextR xs (d + 1) 6) && decide (nextR xs (d + 1) 6 < 6) then dr xs (d + 1 + 1) (
        bif nextR xs (d + 1 + 1) 3 == 0 then cutL s (nextR xs d (s.size : Int)) fun a => put a (encC xs (d + 1)) fun b => cutR s (IntKind.i64.wrap (nextR xs d (s.size : Int) + 1)) fun c => put b c fun r => Q (.string r) (some (strm xs (d + 1 + 1 + 1)))
        else bif nextR xs (d + 1 + 1) 3 == 1 then cutL s (nextR xs d (s.size : Int)) fun a => put a (encC xs (d + 1)) fun b => cutR s (nextR xs d (s.size : Int)) fun c => put b c fun r => Q (.string r) (some (strm xs (d + 1 + 1 + 1)))
        else cutL s (nextR xs d (s.size : Int)) fun a => cutR s (IntKind.i64.wrap (nextR xs d (s.size : Int) + 1)) fun c => put a c fun r => Q (.string r) (some (strm xs (d + 1 + 1 + 1)))) else False)
    else False
theorem cgE (xs : Array Value) (d : Int) (s : ByteArray) (Q : Value → Option Obj → Prop) : ffn Tryz.prog SCg [] 600 [] Tryz.f92 [.pointer (some ⟨0, 0, none⟩), .string s, .string wB] (Ev.h1 (strm xs d)) (fun v h => Q v (h.get 0)) = cgT xs d s Q := by kernel_rfl
theorem someCG : Tryz.f92.body.isSome = true := by kernel_rfl
theorem enc_len (n : Int) : (Utf8.encode n).size ≤ 4 := by
  unfold Utf8.encode
  dsimp only
  repeat' split
  all_goals exact Nat.le_of_ble_eq_true rfl
theorem ext_len (s : ByteArray) (i j : Nat) (h : j ≤ s.size) : (s.extract i j).size ≤ s.size := by
  rw [ByteArray.size_extract]; omega
theorem cutL_mk {s : ByteArray} {i : Int} {K : ByteArray → Prop} (h0 : 0 ≤ i) (h1 : i ≤ (s.size : Int)) (hK : ∀ a : ByteArray, a.size ≤ s.size → K a) : cutL s i K :=
  need_mk (by simp; omega) (hK _ (ext_len _ _ _ (by omega)))
theorem cutR_mk {s : ByteArray} {i : Int} {K : ByteArray → Prop} (h0 : 0 ≤ i) (h1 : i ≤ (s.size : Int)) (hK : ∀ a : ByteArray, a.size ≤ s.size → K a) : cutR s i K :=
  need_mk (by simp; omega) (hK _ (ext_len _ _ _ (by omega)))
theorem put_mk {a b : ByteArray} {K : ByteArray → Prop} (h : a.size + b.size ≤ 100000) (hK : ∀ c : ByteArray, c.size = a.size + b.size → K c) : put a b K :=
  need_mk (Nat.ble_eq_true_of_le (by omega)) (hK _ (app_len a b))
def CgOK (xs : Array Value) (d : Int) (s : ByteArray) (r : ByteArray × Int) : Prop := r.1.size ≤ 2 * s.size + 10 ∧ d ≤ r.2 ∧ r.2 ≤ d + 3 ∧
  FnOK 1 Tryz.prog 92 ⟨[.pointer (some ⟨0, 0, none⟩), .string s, .string wB]⟩ (Ev.h1 (strm xs d)) (fun u g => u = .string r.1 ∧ g.get 0 = some (strm xs r.2))
theorem cgT_ok {zs : List Int} {s : ByteArray} (hs : s.size ≤ 3000) {d : Int} (h0 : 0 ≤ d) (h1 : d ≤ 1000) :
    ∃ r : ByteArray × Int, r.1.size ≤ 2 * s.size + 10 ∧ d ≤ r.2 ∧ r.2 ≤ d + 3 ∧ ∀ Q : Value → Option Obj → Prop, Q (.string r.1) (some (strm (intsV zs) r.2)) → cgT (intsV zs) d s Q := by
  by_cases q : (s.toList == (ByteArray.mk #[]).toList) = true
  · exact ⟨(wB, d), by show wB.size ≤ _; have : wB.size = 6 := rfl; omega, by omega, by omega, fun Q hQ => pick_t q hQ⟩
  · have q := Bool.eq_false_iff.2 q
    have h2 : 1 ≤ s.size := by
      rcases Nat.eq_zero_or_pos s.size with h | h
      · exfalso
        have : s = bl [] := by
          rw [← bl_self s]
          congr 1
          have := bl_size s.data.toList
          rw [bl_self, h] at this
          exact List.length_eq_zero_iff.1 this.symm
        subst this
        rw [bl_beq] at q
        cases q
      · exact h
    have b1 := (nextR_spec zs (s.size : Int) d h0 (by omega) (by omega) (by omega)).1
    have b2 := (nextR_spec zs 6 (d + 1) (by omega) (by omega) (by omega) (by omega)).1
    have hw : IntKind.i64.wrap (nextR (intsV zs) d (s.size : Int) + 1) = nextR (intsV zs) d (s.size : Int) + 1 := wrap_id _ (by omega) (by omega)
    have hl := enc_len (IntKind.i32.wrap ((((ByteArray.mk #[47, 46, 37, 50, 102, 65]).data.toList.getD (nextR (intsV zs) (d + 1) 6).toNat 0).toNat : Nat) : Int))
    have hE : (encC (intsV zs) (d + 1)).size ≤ 4 := hl
    have hc : (decide (0 ≤ d) && decide (d ≤ 1000000) && decide (1 ≤ (s.size : Int)) && decide ((s.size : Int) ≤ 1000000000000) && true && allInts (intsV zs)) = true := by
      rw [allInts_intsV]; simp; omega
    have go : ∀ r : ByteArray, r.size ≤ 2 * s.size + 10 → (∀ Q : Value → Option Obj → Prop, Q (.string r) (some (strm (intsV zs) (d + 1 + 1 + 1))) →
        (bif nextR (intsV zs) (d + 1 + 1) 3 == 0 then cutL s (nextR (intsV zs) d (s.size : Int)) fun a => put a (encC (intsV zs) (d + 1)) fun b => cutR s (IntKind.i64.wrap (nextR (intsV zs) d (s.size : Int) + 1)) fun c => put b c fun r => Q (.string r) (some (strm (intsV zs) (d + 1 + 1 + 1)))
        else bif nextR (intsV zs) (d + 1 + 1) 3 == 1 then cutL s (nextR (intsV zs) d (s.size : Int)) fun a => put a (encC (intsV zs) (d + 1)) fun b => cutR s (nextR (intsV zs) d (s.size : Int)) fun c => put b c fun r => Q (.string r) (some (strm (intsV zs) (d + 1 + 1 + 1)))
        else cutL s (nextR (intsV zs) d (s.size : Int)) fun a => cutR s (IntKind.i64.wrap (nextR (intsV zs) d (s.size : Int) + 1)) fun c => put a c fun r => Q (.string r) (some (strm (intsV zs) (d + 1 + 1 + 1))) : Prop)) →
        ∃ r : ByteArray × Int, r.1.size ≤ 2 * s.size + 10 ∧ d ≤ r.2 ∧ r.2 ≤ d + 3 ∧ ∀ Q : Value → Option Obj → Prop, Q (.string r.1) (some (strm (intsV zs) r.2)) → cgT (intsV zs) d s Q := by
      intro r hr hT
      refine ⟨(r, d + 1 + 1 + 1), hr, by show d ≤ d + 1 + 1 + 1; omega, by show d + 1 + 1 + 1 ≤ d + 3; omega, fun Q hQ => ?_⟩
      exact pick_f q (need_mk hc (dr_mk (by omega) (by omega) (need_mk (by simp; omega) (dr_mk (by omega) (by omega) (hT Q hQ)))))
    rw [hw] at go
    generalize nextR (intsV zs) d (s.size : Int) = i at b1 go
    generalize encC (intsV zs) (d + 1) = E at hE go
    cases c0 : (nextR (intsV zs) (d + 1 + 1) 3 == 0) with
    | true =>
      rw [c0] at go
      refine go (s.extract 0 i.toNat ++ E ++ s.extract (i + 1).toNat (s.size : Int).toNat) ?_ fun Q hQ => need_mk ?_ (need_mk ?_ (need_mk ?_ (need_mk ?_ hQ)))
      all_goals have e1 := ext_len s 0 i.toNat (by omega)
      all_goals have e2 := ext_len s (i + 1).toNat (s.size : Int).toNat (by omega)
      · rw [app_len, app_len]; omega
      · simp; omega
      · exact Nat.ble_eq_true_of_le (by omega)
      · simp; omega
      · exact Nat.ble_eq_true_of_le (by rw [app_len]; omega)
    | false =>
      rw [c0] at go
      cases c1 : (nextR (intsV zs) (d + 1 + 1) 3 == 1) with
      | true =>
        rw [c1] at go
        refine go (s.extract 0 i.toNat ++ E ++ s.extract i.toNat (s.size : Int).toNat) ?_ fun Q hQ => need_mk ?_ (need_mk ?_ (need_mk ?_ (need_mk ?_ hQ)))
        all_goals have e1 := ext_len s 0 i.toNat (by omega)
        all_goals have e2 := ext_len s i.toNat (s.size : Int).toNat (by omega)
        · rw [app_len, app_len]; omega
        · simp; omega
        · exact Nat.ble_eq_true_of_le (by omega)
        · simp; omega
        · exact Nat.ble_eq_true_of_le (by rw [app_len]; omega)
      | false =>
        rw [c1] at go
        refine go (s.extract 0 i.toNat ++ s.extract (i + 1).toNat (s.size : Int).toNat) ?_ fun Q hQ => need_mk ?_ (need_mk ?_ (need_mk ?_ hQ))
        all_goals have e1 := ext_len s 0 i.toNat (by omega)
        all_goals have e2 := ext_len s (i + 1).toNat (s.size : Int).toNat (by omega)
        · rw [app_len]; omega
        · simp; omega
        · simp; omega
        · exact Nat.ble_eq_true_of_le (by omega)
theorem cg_ex (zs : List Int) {s : ByteArray} (hs : s.size ≤ 3000) {d : Int} (h0 : 0 ≤ d) (h1 : d ≤ 1000) : ∃ r, CgOK (intsV zs) d s r := by
  obtain ⟨r, r1, r2, r3, r4⟩ := cgT_ok (zs := zs) hs h0 h1
  exact ⟨r, r1, r2, r3, FnOK.ftree SCg_ok mixed Tryz.func92 someCG (cgE (intsV zs) d s (fun u o => u = .string r.1 ∧ o = some (strm (intsV zs) r.2))) (r4 _ ⟨rfl, rfl⟩)⟩
open Classical in
noncomputable def cgC (xs : Array Value) (d : Int) (s : ByteArray) : ByteArray × Int := if h : ∃ r, CgOK xs d s r then h.choose else (⟨#[]⟩, 0)
theorem cgC_ok (zs : List Int) {s : ByteArray} (hs : s.size ≤ 3000) {d : Int} (h0 : 0 ≤ d) (h1 : d ≤ 1000) : CgOK (intsV zs) d s (cgC (intsV zs) d s) := by
  have h := cg_ex zs hs h0 h1
  unfold cgC
  rw [dif_pos h]
  exact h.choose_spec
noncomputable def spCg (f : FuncId) (args : Array Value) (h : AH) : Option (Bool × Value × AH) :=
  cond (Nat.beq f 92) (match args with
    | ⟨[.pointer (some ⟨b, 0, none⟩), .string s, .string w]⟩ => match h.get b with
      | some (.cells ⟨[.func (.yield 0) xs ⟨[]⟩, .int .i64 at_]⟩ t (0, 0)) =>
        some (w.data.toList == [47, 46, 37, 50, 102, 65] && Nat.beq t 25 && decide (0 ≤ at_) && decide (at_ ≤ 1000) && Nat.ble s.size 3000 && allInts xs, .string (cgC xs at_ s).1, h.set b (.cells ⟨[fz xs, .int .i64 (cgC xs at_ s).2]⟩ 25 (0, 0)))
      | _ => none
    | _ => none) none
theorem spCg_ok : SpOK spCg := by
  intro f args h v h' hs
  unfold spCg at hs
  obtain ⟨hf, hs2⟩ := cond_some hs
  clear hs
  have := Nat.eq_of_beq_eq_true hf
  subst this
  split at hs2
  · rename_i b s w
    split at hs2
    · rename_i xs at_ t hg
      injection hs2 with hs
      injection hs with hb hs
      injection hs with hv hh
      subst hv hh
      simp only [Bool.and_eq_true, decide_eq_true_eq] at hb
      obtain ⟨⟨⟨⟨⟨b0, b1⟩, b2⟩, b3⟩, b4⟩, b5⟩ := hb
      have b1 := Nat.eq_of_beq_eq_true b1
      subst b1
      have e : w = wB := by rw [← bl_self w, eq_of_beq b0]; rfl
      subst e
      obtain ⟨zs, rfl⟩ := intsV_of_all b5
      obtain ⟨_, _, _, hF⟩ := cgC_ok zs (Nat.le_of_ble_eq_true b4) b2 b3
      exact ⟨FnOK.ref (cs := ⟨[fz (intsV zs), .int .i64 at_]⟩) (cs' := ⟨[fz (intsV zs), .int .i64 (cgC (intsV zs) at_ s).2]⟩) (args := [.string s, .string wB]) hF rfl (by simp [p1, fz]) (by simp [p1, fz]) rfl hg, Nat.le_refl _⟩
    · cases hs2
  · cases hs2

/-- The stream's next number; where the bound is n0, it is told. -/
noncomputable def spNk (n0 k : Int) (f : FuncId) (args : Array Value) (h : AH) : Option (Bool × Value × AH) :=
  cond (Nat.beq f 24) (match args with
    | ⟨[.pointer (some ⟨b, 0, none⟩), .int .i64 n]⟩ => match h.get b with
      | some (.cells ⟨[.func (.yield 0) xs ⟨[]⟩, .int .i64 at_]⟩ t (0, 0)) => cond (decide (n = n0))
        (some (Nat.beq t 25 && decide (0 ≤ at_) && decide (at_ ≤ 1000000) && decide (1 ≤ n) && decide (n ≤ 1000000000000) && decide (nextR xs at_ n = k) && allInts xs, .int .i64 k, h.set b (.cells ⟨[fz xs, .int .i64 (at_ + 1)]⟩ 25 (0, 0))))
        (cond (decide (n = 1)) (some (Nat.beq t 25 && decide (0 ≤ at_) && decide (at_ ≤ 1000000) && decide (1 ≤ n) && decide (n ≤ 1000000000000) && decide (nextR xs at_ n = 0) && allInts xs, .int .i64 0, h.set b (.cells ⟨[fz xs, .int .i64 (at_ + 1)]⟩ 25 (0, 0))))
          (some (Nat.beq t 25 && decide (0 ≤ at_) && decide (at_ ≤ 1000000) && decide (1 ≤ n) && decide (n ≤ 1000000000000) && true && allInts xs, .int .i64 (nextR xs at_ n), h.set b (.cells ⟨[fz xs, .int .i64 (at_ + 1)]⟩ 25 (0, 0)))))
      | _ => none
    | _ => none) none
theorem spNk_ok (n0 k : Int) : SpOK (spNk n0 k) := by
  intro f args h v h' hs
  unfold spNk at hs
  obtain ⟨hf, hs2⟩ := cond_some hs
  clear hs
  have hs := hs2
  clear hs2
  have := Nat.eq_of_beq_eq_true hf
  subst this
  split at hs
  · rename_i b n
    split at hs
    · rename_i xs at_ t hg
      have key : ∀ (r : Int) (c : Bool), (c = true → r = nextR xs at_ n) → some (Nat.beq t 25 && decide (0 ≤ at_) && decide (at_ ≤ 1000000) && decide (1 ≤ n) && decide (n ≤ 1000000000000) && c && allInts xs, Value.int .i64 r, h.set b (.cells ⟨[fz xs, .int .i64 (at_ + 1)]⟩ 25 (0, 0))) = some (true, v, h') → CallOK Tryz.prog 24 ⟨[.pointer (some ⟨b, 0, none⟩), .int .i64 n]⟩ h v h' ∧ h.next ≤ h'.next := by
        intro r c hr hs
        injection hs with hs
        injection hs with hb hs
        injection hs with hv hh
        subst hv hh
        simp only [Bool.and_eq_true, decide_eq_true_eq] at hb
        obtain ⟨⟨⟨⟨⟨⟨b0, b1⟩, b2⟩, b3⟩, b4⟩, b5⟩, b6⟩ := hb
        have b0 := Nat.eq_of_beq_eq_true b0
        subst b0
        obtain ⟨zs, rfl⟩ := intsV_of_all b6
        rw [hr b5]
        have hF := (nextR_spec zs n at_ b1 b2 b3 (by omega)).2
        refine ⟨?_, Nat.le_refl _⟩
        exact FnOK.ref (cs := ⟨[fz (intsV zs), .int .i64 at_]⟩) (cs' := ⟨[fz (intsV zs), .int .i64 (at_ + 1)]⟩) (args := [.int .i64 n]) hF rfl (by simp [p1, fz]) (by simp [p1, fz]) rfl hg
      cases hn : decide (n = n0) with
      | true =>
        rw [hn] at hs
        exact key k (decide (nextR xs at_ n = k)) (fun q => (of_decide_eq_true q).symm) hs
      | false =>
        rw [hn, cond_false] at hs
        cases hm : decide (n = 1) with
        | true =>
          rw [hm] at hs
          exact key 0 (decide (nextR xs at_ n = 0)) (fun q => (of_decide_eq_true q).symm) hs
        | false =>
          rw [hm] at hs
          exact key (nextR xs at_ n) true (fun _ => rfl) hs
    · cases hs
  · cases hs
noncomputable def drK (xs : Array Value) (d n k : Int) (X : Prop) : Prop := bif decide (0 ≤ d) && decide (d ≤ 1000000) && true && true && decide (nextR xs d n = k) && allInts xs then X else False
theorem drK_mk {zs : List Int} {d n k : Int} (h0 : 0 ≤ d) (h1 : d ≤ 1000000) (hk : nextR (intsV zs) d n = k) {X : Prop} (hX : X) : drK (intsV zs) d n k X := need_mk (by rw [allInts_intsV, hk]; simp [h0, h1]) hX

/-! PathName -/
noncomputable def SPn (n : Int) : SC := ⟨idn, spOr spRp (spOr spCg (spOr spJr (spNk 5 n))), true, true⟩
theorem SPn_ok (n : Int) : (SPn n).cfg.OK Tryz.prog := (spRp_ok.or (spCg_ok.or (spJr_ok.or (spNk_ok 5 n)))).cfg
def pwL : List Value := [.string ⟨#[97]⟩, .string ⟨#[98]⟩, .string ⟨#[37, 52, 49]⟩, .string ⟨#[37, 50, 102]⟩, .string ⟨#[37, 55, 101]⟩, .string ⟨#[46]⟩, .string ⟨#[46, 46]⟩, .string ⟨#[]⟩, .string ⟨#[120, 59, 121]⟩, .string ⟨#[99, 37, 50, 48, 100]⟩, .string ⟨#[37, 99, 51, 37, 97, 52]⟩, .string ⟨#[65]⟩, .string ⟨#[97, 46, 98]⟩, .string ⟨#[126]⟩]
def odL : List Value := [.string ⟨#[]⟩, .string ⟨#[97]⟩, .string ⟨#[47, 97, 63, 98]⟩, .string ⟨#[47, 97, 35]⟩, .string ⟨#[47, 37]⟩, .string ⟨#[47, 37, 52]⟩, .string ⟨#[47, 37, 122, 122]⟩, .string ⟨#[47, 127]⟩, .string ⟨#[47, 97, 32, 98]⟩, .string (⟨#[47]⟩ ++ rpS)]
noncomputable def pnF (xs : Array Value) (d : Int) (p : ByteArray) (Q : Value → Option Obj → Prop) : Prop :=
  dr xs d (bif nextR xs d 12 == 0 then bif true && decide (0 ≤ d + 1) && decide (d + 1 ≤ 1000) && Nat.ble p.size 3000 && allInts xs then Q (.string (cgC xs (d + 1) p).1) (some (strm xs (cgC xs (d + 1) p).2)) else False else Q (.string p) (some (strm xs (d + 1))))
noncomputable def pnT (xs : Array Value) (d : Int) (p : ByteArray) (Q : Value → Option Obj → Prop) : Prop :=
  dr xs d (bif nextR xs d 12 == 0 then bif rpOk then dr xs (d + 1) (rg (nextR xs (d + 1) 10) 10 10 (pnF xs (d + 1 + 1) (gS odL (nextR xs (d + 1) 10)) Q)) else False else pnF xs (d + 1) p Q)
noncomputable def pnJ (xs : Array Value) (d : Int) (L : List ByteArray) (Q : Value → Option Obj → Prop) : Prop :=
  bif lenJ (L.map Value.string) ⟨#[47]⟩ then bif Nat.ble (1 + (bl (Lib.join (L.map (·.data.toList)) [47])).size) 1000000 then pnT xs d (⟨#[47]⟩ ++ bl (Lib.join (L.map (·.data.toList)) [47])) Q else False else False
noncomputable def pnW (xs : Array Value) (Q : Value → Option Obj → Prop) : Nat → Int → List ByteArray → Prop
  | 0, d, L => pnJ xs d L Q
  | n + 1, d, L => dr xs d (rg (nextR xs d 14) 14 14 (pnW xs Q n (d + 1) (L ++ [gS pwL (nextR xs d 14)])))
theorem pn0 (xs : Array Value) (d : Int) (Q : Value → Option Obj → Prop) : ffn Tryz.prog (SPn 0) [] 3000 [] Tryz.f43 [.pointer (some ⟨0, 0, none⟩)] (Ev.h1 (strm xs d)) (fun v h => Q v (h.get 0)) =
    drK xs d 5 0 (pnT xs (d + 1) (⟨#[47]⟩ ++ ⟨#[]⟩) Q) := by kernel_rfl
set_option maxRecDepth 20000 in
theorem pn1 (xs : Array Value) (d : Int) (Q : Value → Option Obj → Prop) : ffn Tryz.prog (SPn 1) [] 3000 [] Tryz.f43 [.pointer (some ⟨0, 0, none⟩)] (Ev.h1 (strm xs d)) (fun v h => Q v (h.get 0)) =
    drK xs d 5 1 (pnW xs Q 1 (d + 1) []) := by kernel_rfl
set_option maxRecDepth 20000 in
theorem pn2 (xs : Array Value) (d : Int) (Q : Value → Option Obj → Prop) : ffn Tryz.prog (SPn 2) [] 3000 [] Tryz.f43 [.pointer (some ⟨0, 0, none⟩)] (Ev.h1 (strm xs d)) (fun v h => Q v (h.get 0)) =
    drK xs d 5 2 (pnW xs Q 2 (d + 1) []) := by kernel_rfl
set_option maxRecDepth 20000 in
theorem pn3 (xs : Array Value) (d : Int) (Q : Value → Option Obj → Prop) : ffn Tryz.prog (SPn 3) [] 3000 [] Tryz.f43 [.pointer (some ⟨0, 0, none⟩)] (Ev.h1 (strm xs d)) (fun v h => Q v (h.get 0)) =
    drK xs d 5 3 (pnW xs Q 3 (d + 1) []) := by kernel_rfl
set_option maxRecDepth 20000 in
theorem pn4 (xs : Array Value) (d : Int) (Q : Value → Option Obj → Prop) : ffn Tryz.prog (SPn 4) [] 3000 [] Tryz.f43 [.pointer (some ⟨0, 0, none⟩)] (Ev.h1 (strm xs d)) (fun v h => Q v (h.get 0)) =
    drK xs d 5 4 (pnW xs Q 4 (d + 1) []) := by kernel_rfl
theorem somePN : Tryz.f43.body.isSome = true := by kernel_rfl
theorem pw_len {r : Int} (h0 : 0 ≤ r) (h1 : r < 14) : (gS pwL r).size ≤ 6 := by
  have : ∀ n < 14, (gS pwL ((n : Nat) : Int)).size ≤ 6 := by decide +kernel
  have := this r.toNat (by omega)
  rwa [Int.toNat_of_nonneg h0] at this
theorem od_len {r : Int} (h0 : 0 ≤ r) (h1 : r < 10) : (gS odL r).size ≤ 1021 := by
  have h9 : ∀ n < 9, (gS odL ((n : Nat) : Int)).size ≤ 1021 := by decide +kernel
  by_cases q : r = 9
  · subst q
    show (⟨#[47]⟩ ++ rpS : ByteArray).size ≤ 1021
    rw [app_len, rpS_len]
    exact Nat.le_of_ble_eq_true rfl
  · have := h9 r.toNat (by omega)
    rwa [Int.toNat_of_nonneg h0] at this
theorem joinTail_len : ∀ {L : List (List UInt8)}, (∀ x ∈ L, x.length ≤ 6) → (Lib.joinTail [47] L).length ≤ 7 * L.length
  | [], _ => Nat.le_refl _
  | x :: r, h => by
    have h1 := joinTail_len (L := r) fun y hy => h y (by simp [hy])
    have h2 := h x (by simp)
    have e : Lib.joinTail [47] (x :: r) = ([47] ++ x) ++ Lib.joinTail [47] r := by simp [Lib.joinTail]
    rw [e]
    simp
    omega
theorem join_len {L : List (List UInt8)} (h : ∀ x ∈ L, x.length ≤ 6) : (Lib.join L [47]).length ≤ 7 * L.length := by
  cases L with
  | nil => exact Nat.le_refl _
  | cons x r =>
    have h1 := joinTail_len (L := r) fun y hy => h y (by simp [hy])
    have h2 := h x (by simp)
    rw [Lib.join_cons]
    simp
    omega
theorem strs_str (L : List ByteArray) : strsOf (L.map Value.string) = L := by
  unfold strsOf
  rw [List.map_map]
  have : toStr ∘ Value.string = id := by funext l; rfl
  rw [this, List.map_id]
def Fin (zs : List Int) (m : Nat) (e : Int) (T : (Value → Option Obj → Prop) → Prop) : Prop :=
  ∃ r : ByteArray × Int, r.1.size ≤ m ∧ 0 ≤ r.2 ∧ r.2 ≤ e ∧ ∀ Q : Value → Option Obj → Prop, Q (.string r.1) (some (strm (intsV zs) r.2)) → T Q
theorem pnF_ex (zs : List Int) {p : ByteArray} (hp : p.size ≤ 3000) {d : Int} (h0 : 0 ≤ d) (h1 : d ≤ 900) : Fin zs 10000 (d + 4) (pnF (intsV zs) d p) := by
  cases c0 : (nextR (intsV zs) d 12 == 0) with
  | true =>
    obtain ⟨r1, r2, r3, _⟩ := cgC_ok zs hp (d := d + 1) (by omega) (by omega)
    refine ⟨cgC (intsV zs) (d + 1) p, by omega, by omega, by omega, fun Q hQ => dr_mk h0 (by omega) (pick_t c0 (need_mk ?_ hQ))⟩
    rw [allInts_intsV, Nat.ble_eq_true_of_le hp]
    simp
    omega
  | false => exact ⟨(p, d + 1), by show p.size ≤ _; omega, by show 0 ≤ d + 1; omega, by show d + 1 ≤ d + 4; omega, fun Q hQ => dr_mk h0 (by omega) (pick_f c0 hQ)⟩
theorem pnT_ex (zs : List Int) {p : ByteArray} (hp : p.size ≤ 3000) {d : Int} (h0 : 0 ≤ d) (h1 : d ≤ 800) : Fin zs 10000 (d + 6) (pnT (intsV zs) d p) := by
  cases c0 : (nextR (intsV zs) d 12 == 0) with
  | true =>
    have hb := (nextR_spec zs 10 (d + 1) (by omega) (by omega) (by omega) (by omega)).1
    obtain ⟨r, r1, r2, r3, r4⟩ := pnF_ex zs (p := gS odL (nextR (intsV zs) (d + 1) 10)) (by have := od_len hb.1 hb.2; omega) (d := d + 1 + 1) (by omega) (by omega)
    refine ⟨r, r1, r2, by omega, fun Q hQ => ?_⟩
    have hr : dr (intsV zs) (d + 1) (rg (nextR (intsV zs) (d + 1) 10) 10 10 (pnF (intsV zs) (d + 1 + 1) (gS odL (nextR (intsV zs) (d + 1) 10)) Q)) := dr_mk (by omega) (by omega) (rg_mk (by omega) (by omega) rfl (by decide) (r4 Q hQ))
    unfold pnT
    refine dr_mk h0 (by omega) (pick_t c0 ?_)
    rw [rpOk_t]
    exact hr
  | false =>
    obtain ⟨r, r1, r2, r3, r4⟩ := pnF_ex zs hp (d := d + 1) (by omega) (by omega)
    exact ⟨r, r1, r2, by omega, fun Q hQ => dr_mk h0 (by omega) (pick_f c0 (r4 Q hQ))⟩
theorem pnJ_ex (zs : List Int) {L : List ByteArray} (hL : ∀ x ∈ L, x.size ≤ 6) (h4 : L.length ≤ 4) {d : Int} (h0 : 0 ≤ d) (h1 : d ≤ 700) : Fin zs 10000 (d + 6) (pnJ (intsV zs) d L) := by
  have hj : (Lib.join (L.map (·.data.toList)) [47]).length ≤ 28 := by
    have := join_len (L := L.map (·.data.toList)) (by
      intro x hx
      obtain ⟨y, hy, rfl⟩ := List.mem_map.1 hx
      have := hL y hy
      rw [← bl_self y, bl_size] at this
      exact this)
    rw [List.length_map] at this
    omega
  obtain ⟨r, r1, r2, r3, r4⟩ := pnT_ex zs (p := ⟨#[47]⟩ ++ bl (Lib.join (L.map (·.data.toList)) [47])) (by rw [app_len, bl_size]; show 1 + _ ≤ _; omega) h0 (by omega)
  refine ⟨r, r1, r2, r3, fun Q hQ => need_mk ?_ (need_mk ?_ (r4 Q hQ))⟩
  · unfold lenJ
    rw [strs_str]
    exact Nat.ble_eq_true_of_le (Nat.le_trans hj (by omega))
  · rw [bl_size]
    exact Nat.ble_eq_true_of_le (by omega)
theorem pnW_ex (zs : List Int) : ∀ (n : Nat) (d : Int) (L : List ByteArray), (∀ x ∈ L, x.size ≤ 6) → L.length + n ≤ 4 → 0 ≤ d → d + n ≤ 100 → Fin zs 10000 (d + n + 6) fun Q => pnW (intsV zs) Q n d L
  | 0, d, L, h1, h2, h3, h4 => by
    obtain ⟨r, r1, r2, r3, r4⟩ := pnJ_ex zs h1 (by omega) h3 (by omega)
    exact ⟨r, r1, r2, by simpa using r3, r4⟩
  | n + 1, d, L, h1, h2, h3, h4 => by
    have hb := (nextR_spec zs 14 d h3 (by omega) (by omega) (by omega)).1
    obtain ⟨r, r1, r2, r3, r4⟩ := pnW_ex zs n (d + 1) (L ++ [gS pwL (nextR (intsV zs) d 14)]) (by
      intro x hx
      rcases List.mem_append.1 hx with h | h
      · exact h1 x h
      · rw [List.mem_singleton.1 h]; exact pw_len hb.1 hb.2) (by rw [List.length_append]; simp; omega) (by omega) (by omega)
    exact ⟨r, r1, r2, by omega, fun Q hQ => dr_mk h3 (by omega) (rg_mk h3 (by omega) rfl (by decide) (r4 Q hQ))⟩

/-! strings as they are drawn -/
def GsOK (F : FuncId) (P : ByteArray → Prop) (w : Int) (xs : Array Value) (d : Int) (r : ByteArray × Int) : Prop := P r.1 ∧ 0 ≤ r.2 ∧ r.2 ≤ d + w ∧
  FnOK 1 Tryz.prog F ⟨[.pointer (some ⟨0, 0, none⟩)]⟩ (Ev.h1 (strm xs d)) (fun u g => u = .string r.1 ∧ g.get 0 = some (strm xs r.2))
open Classical in
noncomputable def gsC (F : FuncId) (P : ByteArray → Prop) (w : Int) (xs : Array Value) (d : Int) : ByteArray × Int := if h : ∃ r, GsOK F P w xs d r then h.choose else (⟨#[]⟩, 0)
def GsEx (F : FuncId) (P : ByteArray → Prop) (w : Int) : Prop := ∀ (zs : List Int) (d : Int), 0 ≤ d → d ≤ 60 → ∃ r, GsOK F P w (intsV zs) d r
theorem gsC_ok {F : FuncId} {P : ByteArray → Prop} {w : Int} (hx : GsEx F P w) (zs : List Int) {d : Int} (h0 : 0 ≤ d) (h1 : d ≤ 60) : GsOK F P w (intsV zs) d (gsC F P w (intsV zs) d) := by
  have h := hx zs d h0 h1
  unfold gsC
  rw [dif_pos h]
  exact h.choose_spec
noncomputable def spGS (F : FuncId) (P : ByteArray → Prop) (w : Int) (f : FuncId) (args : Array Value) (h : AH) : Option (Bool × Value × AH) :=
  cond (Nat.beq f F) (match args with
    | ⟨[.pointer (some ⟨b, 0, none⟩)]⟩ => match h.get b with
      | some (.cells ⟨[.func (.yield 0) xs ⟨[]⟩, .int .i64 at_]⟩ t (0, 0)) =>
        some (Nat.beq t 25 && decide (0 ≤ at_) && decide (at_ ≤ 60) && allInts xs, .string (gsC F P w xs at_).1, h.set b (.cells ⟨[fz xs, .int .i64 (gsC F P w xs at_).2]⟩ 25 (0, 0)))
      | _ => none
    | _ => none) none
theorem spGS_ok {F : FuncId} {P : ByteArray → Prop} {w : Int} (hx : GsEx F P w) : SpOK (spGS F P w) := by
  intro f args h v h' hs
  unfold spGS at hs
  obtain ⟨hf, hs2⟩ := cond_some hs
  clear hs
  have := Nat.eq_of_beq_eq_true hf
  subst this
  split at hs2
  · rename_i b
    split at hs2
    · rename_i xs at_ t hg
      injection hs2 with hs
      injection hs with hb hs
      injection hs with hv hh
      subst hv hh
      simp only [Bool.and_eq_true, decide_eq_true_eq] at hb
      obtain ⟨⟨⟨b1, b2⟩, b3⟩, b4⟩ := hb
      have b1 := Nat.eq_of_beq_eq_true b1
      subst b1
      obtain ⟨zs, rfl⟩ := intsV_of_all b4
      obtain ⟨_, _, _, hF⟩ := gsC_ok hx zs b2 b3
      exact ⟨FnOK.ref (cs := ⟨[fz (intsV zs), .int .i64 at_]⟩) (cs' := ⟨[fz (intsV zs), .int .i64 (gsC _ P w (intsV zs) at_).2]⟩) (args := []) hF rfl (by simp [p1, fz]) (by simp [p1, fz]) rfl hg, Nat.le_refl _⟩
    · cases hs2
  · cases hs2
/-- The condition of a generator's specification. -/
noncomputable def gn (xs : Array Value) (d : Int) (X : Prop) : Prop := bif decide (0 ≤ d) && decide (d ≤ 60) && allInts xs then X else False
theorem gn_mk {zs : List Int} {d : Int} (h0 : 0 ≤ d) (h1 : d ≤ 60) {X : Prop} (hX : X) : gn (intsV zs) d X := need_mk (by rw [allInts_intsV]; simp [h0, h1]) hX
def shortB (s : ByteArray) : Prop := s.size ≤ 10000
theorem pn_gs : GsEx 43 shortB 150 := by
  intro zs d h0 h1
  have hb := (nextR_spec zs 5 d h0 (by omega) (by omega) (by omega)).1
  have hk : nextR (intsV zs) d 5 = 0 ∨ nextR (intsV zs) d 5 = 1 ∨ nextR (intsV zs) d 5 = 2 ∨ nextR (intsV zs) d 5 = 3 ∨ nextR (intsV zs) d 5 = 4 := by omega
  rcases hk with h | h | h | h | h
  · obtain ⟨r, r1, r2, r3, r4⟩ := pnT_ex zs (p := ⟨#[47]⟩ ++ ⟨#[]⟩) (by rw [app_len]; show 1 + 0 ≤ 3000; omega) (d := d + 1) (by omega) (by omega)
    exact ⟨r, r1, by omega, by omega, FnOK.ftree (SPn_ok 0) mixed Tryz.func43 somePN (pn0 (intsV zs) d (fun u o => u = .string r.1 ∧ o = some (strm (intsV zs) r.2))) (drK_mk h0 (by omega) h (r4 _ ⟨rfl, rfl⟩))⟩
  · obtain ⟨r, r1, r2, r3, r4⟩ := pnW_ex zs 1 (d + 1) [] (by intro x hx; cases hx) (by simp) (by omega) (by omega)
    exact ⟨r, r1, by omega, by omega, FnOK.ftree (SPn_ok 1) mixed Tryz.func43 somePN (pn1 (intsV zs) d (fun u o => u = .string r.1 ∧ o = some (strm (intsV zs) r.2))) (drK_mk h0 (by omega) h (r4 _ ⟨rfl, rfl⟩))⟩
  · obtain ⟨r, r1, r2, r3, r4⟩ := pnW_ex zs 2 (d + 1) [] (by intro x hx; cases hx) (by simp) (by omega) (by omega)
    exact ⟨r, r1, by omega, by omega, FnOK.ftree (SPn_ok 2) mixed Tryz.func43 somePN (pn2 (intsV zs) d (fun u o => u = .string r.1 ∧ o = some (strm (intsV zs) r.2))) (drK_mk h0 (by omega) h (r4 _ ⟨rfl, rfl⟩))⟩
  · obtain ⟨r, r1, r2, r3, r4⟩ := pnW_ex zs 3 (d + 1) [] (by intro x hx; cases hx) (by simp) (by omega) (by omega)
    exact ⟨r, r1, by omega, by omega, FnOK.ftree (SPn_ok 3) mixed Tryz.func43 somePN (pn3 (intsV zs) d (fun u o => u = .string r.1 ∧ o = some (strm (intsV zs) r.2))) (drK_mk h0 (by omega) h (r4 _ ⟨rfl, rfl⟩))⟩
  · obtain ⟨r, r1, r2, r3, r4⟩ := pnW_ex zs 4 (d + 1) [] (by intro x hx; cases hx) (by simp) (by omega) (by omega)
    exact ⟨r, r1, by omega, by omega, FnOK.ftree (SPn_ok 4) mixed Tryz.func43 somePN (pn4 (intsV zs) d (fun u o => u = .string r.1 ∧ o = some (strm (intsV zs) r.2))) (drK_mk h0 (by omega) h (r4 _ ⟨rfl, rfl⟩))⟩
end Go.Proofs.YtnaeehnkabojdaaGreatDoor
