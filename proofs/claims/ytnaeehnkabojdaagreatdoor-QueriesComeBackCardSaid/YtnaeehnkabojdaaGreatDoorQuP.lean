/-
  Requests: strings as they are drawn.
-/
import Derived.Test.YtnaeehnkabojdaaGreatDoorQuW
namespace Go.Proofs.YtnaeehnkabojdaaGreatDoor
open Go.Ev Go.RowKit RecLaw PathLaw QueryLaw

noncomputable def spRg (f : FuncId) (args : Array Value) (h : AH) : Option (Bool × Value × AH) :=
  cond (Nat.beq f 47) (match args with
    | ⟨[.string s, .int .i64 n]⟩ => some (decide (0 ≤ n) && decide (n ≤ 100000) && Nat.ble (s.size * n.toNat) 100000, .string (bl (Lib.repeatL s.data.toList n.toNat)), h)
    | _ => none) none
theorem spRg_ok : SpOK spRg := by
  intro f args h v h' hs
  unfold spRg at hs
  obtain ⟨hf, hs2⟩ := cond_some hs
  clear hs
  have := Nat.eq_of_beq_eq_true hf
  subst this
  split at hs2
  · injection hs2 with hs
    injection hs with hb hs
    injection hs with hv hh
    subst hv hh
    rename_i s n
    simp only [Bool.and_eq_true, decide_eq_true_eq] at hb
    obtain ⟨⟨b1, b2⟩, b3⟩ := hb
    have b3 := Nat.le_of_ble_eq_true b3
    have e : n = ((n.toNat : Nat) : Int) := (Int.toNat_of_nonneg b1).symm
    refine ⟨?_, Nat.le_refl _⟩
    have hF : CallOK Tryz.prog 47 ⟨[.string s, .int .i64 ((n.toNat : Nat) : Int)]⟩ h (.string (bl (Lib.repeatL s.data.toList n.toNat))) h := flat_call (args := [.string s, .int .i64 ((n.toNat : Nat) : Int)]) rfl rfl fun w => Tryz.strings_Repeat s n.toNat w (by omega) (by omega)
    rw [← e] at hF
    exact hF
  · cases hs2
theorem rep_len (l : List UInt8) : ∀ n : Nat, (Lib.repeatL l n).length = l.length * n
  | 0 => rfl
  | n + 1 => by
    rw [Lib.repeatL, List.length_append, rep_len l n, Nat.mul_succ]; omega
theorem gS_in {L : List Value} {m : Nat} {P : ByteArray → Prop} (hm : L.length = m) (hL : ∀ v ∈ L, P (toStr v)) {r : Int} (h0 : 0 ≤ r) (h1 : r < (m : Int)) : P (gS L r) := by
  unfold gS
  have hr : 0 + r.toNat * 1 < L.length := by omega
  rw [List.getD_eq_getElem?_getD, List.getElem?_eq_getElem hr]
  exact hL _ (List.getElem_mem hr)
noncomputable def SG1 : SC := ⟨idn, spOr spRg (spNext []), true, true⟩
theorem SG1_ok : SG1.cfg.OK Tryz.prog := (spRg_ok.or (spNext_ok [])).cfg
def hostS (s : ByteArray) : Prop := s.data.toList ∈ hosts
def ttL : List Value := [.string ⟨#[97, 99, 99, 101, 112, 116]⟩, .string ⟨#[88, 45, 79, 110, 101]⟩, .string ⟨#[120, 45, 111, 110, 101]⟩, .string ⟨#[118, 105, 97]⟩, .string ⟨#[97]⟩, .string ⟨#[65]⟩, .string ⟨#[116, 101]⟩, .string ⟨#[99, 111, 110, 110, 101, 99, 116, 105, 111, 110]⟩, .string ⟨#[]⟩, .string ⟨#[97, 32, 98]⟩, .string ⟨#[97, 58]⟩, .string ⟨#[127]⟩, .string (bl (Lib.repeatL [110] 101))]
theorem tt_eq (xs : Array Value) (d : Int) (Q : Value → Option Obj → Prop) : ffn Tryz.prog SG1 [] 3000 [] Tryz.f41 [.pointer (some ⟨0, 0, none⟩)] (Ev.h1 (strm xs d)) (fun v h => Q v (h.get 0)) =
    dr xs d (rg (nextR xs d 13) 13 13 (Q (.string (gS ttL (nextR xs d 13))) (some (strm xs (d + 1))))) := by kernel_rfl
theorem tt_some : Tryz.f41.body.isSome = true := by kernel_rfl
theorem tt_all : ∀ v ∈ ttL, shortB (toStr v) := by
  intro v hv
  simp only [ttL, List.mem_cons, List.not_mem_nil, or_false] at hv
  rcases hv with rfl | rfl | rfl | rfl | rfl | rfl | rfl | rfl | rfl | rfl | rfl | rfl | rfl
  · exact Nat.le_of_ble_eq_true rfl
  · exact Nat.le_of_ble_eq_true rfl
  · exact Nat.le_of_ble_eq_true rfl
  · exact Nat.le_of_ble_eq_true rfl
  · exact Nat.le_of_ble_eq_true rfl
  · exact Nat.le_of_ble_eq_true rfl
  · exact Nat.le_of_ble_eq_true rfl
  · exact Nat.le_of_ble_eq_true rfl
  · exact Nat.le_of_ble_eq_true rfl
  · exact Nat.le_of_ble_eq_true rfl
  · exact Nat.le_of_ble_eq_true rfl
  · exact Nat.le_of_ble_eq_true rfl
  · show (bl _).size ≤ 10000; rw [bl_size, rep_len]; decide

theorem tt_gs : GsEx 41 shortB 1 := by
  intro zs d h0 h1
  have hb := (nextR_spec zs 13 d h0 (by omega) (by omega) (by omega)).1
  refine ⟨(gS ttL (nextR (intsV zs) d 13), d + 1), gS_in (m := 13) rfl tt_all hb.1 hb.2, by show 0 ≤ d + 1; omega, by show d + 1 ≤ d + 1; omega, ?_⟩
  exact FnOK.ftree SG1_ok mixed Tryz.func41 tt_some (tt_eq (intsV zs) d (fun u o => u = .string (gS ttL (nextR (intsV zs) d 13)) ∧ o = some (strm (intsV zs) (d + 1)))) (dr_mk h0 (by omega) (rg_mk h0 (by omega) rfl (by decide) ⟨rfl, rfl⟩))
def ftL : List Value := [.string ⟨#[49]⟩, .string ⟨#[120]⟩, .string ⟨#[97, 44, 32, 98]⟩, .string ⟨#[]⟩, .string ⟨#[116, 101, 120, 116, 47, 104, 116, 109, 108]⟩, .string ⟨#[99, 108, 111, 115, 101]⟩, .string ⟨#[120, 45, 111, 110, 101]⟩, .string ⟨#[103, 119, 44, 32, 98]⟩, .string ⟨#[49, 46, 50, 46, 51, 46, 52, 44, 32, 53, 46, 54, 46, 55, 46, 56]⟩, .string ⟨#[32, 120]⟩, .string ⟨#[120, 32]⟩, .string ⟨#[97, 9, 98]⟩, .string ⟨#[128]⟩, .string (bl (Lib.repeatL [118] 2001))]
theorem ft_eq (xs : Array Value) (d : Int) (Q : Value → Option Obj → Prop) : ffn Tryz.prog SG1 [] 3000 [] Tryz.f45 [.pointer (some ⟨0, 0, none⟩)] (Ev.h1 (strm xs d)) (fun v h => Q v (h.get 0)) =
    dr xs d (rg (nextR xs d 14) 14 14 (Q (.string (gS ftL (nextR xs d 14))) (some (strm xs (d + 1))))) := by kernel_rfl
theorem ft_some : Tryz.f45.body.isSome = true := by kernel_rfl
theorem ft_all : ∀ v ∈ ftL, shortB (toStr v) := by
  intro v hv
  simp only [ftL, List.mem_cons, List.not_mem_nil, or_false] at hv
  rcases hv with rfl | rfl | rfl | rfl | rfl | rfl | rfl | rfl | rfl | rfl | rfl | rfl | rfl | rfl
  · exact Nat.le_of_ble_eq_true rfl
  · exact Nat.le_of_ble_eq_true rfl
  · exact Nat.le_of_ble_eq_true rfl
  · exact Nat.le_of_ble_eq_true rfl
  · exact Nat.le_of_ble_eq_true rfl
  · exact Nat.le_of_ble_eq_true rfl
  · exact Nat.le_of_ble_eq_true rfl
  · exact Nat.le_of_ble_eq_true rfl
  · exact Nat.le_of_ble_eq_true rfl
  · exact Nat.le_of_ble_eq_true rfl
  · exact Nat.le_of_ble_eq_true rfl
  · exact Nat.le_of_ble_eq_true rfl
  · exact Nat.le_of_ble_eq_true rfl
  · show (bl _).size ≤ 10000; rw [bl_size, rep_len]; decide

theorem ft_gs : GsEx 45 shortB 1 := by
  intro zs d h0 h1
  have hb := (nextR_spec zs 14 d h0 (by omega) (by omega) (by omega)).1
  refine ⟨(gS ftL (nextR (intsV zs) d 14), d + 1), gS_in (m := 14) rfl ft_all hb.1 hb.2, by show 0 ≤ d + 1; omega, by show d + 1 ≤ d + 1; omega, ?_⟩
  exact FnOK.ftree SG1_ok mixed Tryz.func45 ft_some (ft_eq (intsV zs) d (fun u o => u = .string (gS ftL (nextR (intsV zs) d 14)) ∧ o = some (strm (intsV zs) (d + 1)))) (dr_mk h0 (by omega) (rg_mk h0 (by omega) rfl (by decide) ⟨rfl, rfl⟩))
def hnL : List Value := [.string ⟨#[97, 46, 98]⟩, .string ⟨#[97, 46, 98]⟩, .string ⟨#[65, 46, 66]⟩, .string ⟨#[115, 104, 111, 112, 46, 101, 120, 97, 109, 112, 108, 101]⟩, .string ⟨#[97, 46, 98, 58, 56, 48]⟩, .string ⟨#[97, 46, 98, 58, 52, 52, 51]⟩, .string ⟨#[97, 46, 98, 58, 56, 48, 56, 48]⟩, .string ⟨#[120, 45, 49, 46, 121]⟩, .string ⟨#[49, 46, 50, 46, 51, 46, 52]⟩, .string ⟨#[]⟩, .string ⟨#[97, 46, 46, 98]⟩, .string ⟨#[45, 97, 46, 98]⟩, .string ⟨#[97, 46, 98, 58, 48]⟩, .string ⟨#[97, 46, 98, 58, 48, 56]⟩, .string ⟨#[97, 46, 98, 58, 54, 53, 53, 51, 54]⟩, .string ⟨#[97, 95, 98]⟩, .string ⟨#[97, 46, 98, 58]⟩, .string ⟨#[97, 32, 98]⟩, .string (bl (Lib.repeatL [97] 64))]
theorem hn_eq (xs : Array Value) (d : Int) (Q : Value → Option Obj → Prop) : ffn Tryz.prog SG1 [] 3000 [] Tryz.f42 [.pointer (some ⟨0, 0, none⟩)] (Ev.h1 (strm xs d)) (fun v h => Q v (h.get 0)) =
    dr xs d (rg (nextR xs d 19) 19 19 (Q (.string (gS hnL (nextR xs d 19))) (some (strm xs (d + 1))))) := by kernel_rfl
theorem hn_some : Tryz.f42.body.isSome = true := by kernel_rfl
theorem hn_all : ∀ v ∈ hnL, hostS (toStr v) := by
  intro v hv
  simp only [hnL, List.mem_cons, List.not_mem_nil, or_false] at hv
  rcases hv with rfl | rfl | rfl | rfl | rfl | rfl | rfl | rfl | rfl | rfl | rfl | rfl | rfl | rfl | rfl | rfl | rfl | rfl | rfl
  · show (bl _).data.toList ∈ hosts; rw [bl_list]; decide +kernel
  · show (bl _).data.toList ∈ hosts; rw [bl_list]; decide +kernel
  · show (bl _).data.toList ∈ hosts; rw [bl_list]; decide +kernel
  · show (bl _).data.toList ∈ hosts; rw [bl_list]; decide +kernel
  · show (bl _).data.toList ∈ hosts; rw [bl_list]; decide +kernel
  · show (bl _).data.toList ∈ hosts; rw [bl_list]; decide +kernel
  · show (bl _).data.toList ∈ hosts; rw [bl_list]; decide +kernel
  · show (bl _).data.toList ∈ hosts; rw [bl_list]; decide +kernel
  · show (bl _).data.toList ∈ hosts; rw [bl_list]; decide +kernel
  · show (bl _).data.toList ∈ hosts; rw [bl_list]; decide +kernel
  · show (bl _).data.toList ∈ hosts; rw [bl_list]; decide +kernel
  · show (bl _).data.toList ∈ hosts; rw [bl_list]; decide +kernel
  · show (bl _).data.toList ∈ hosts; rw [bl_list]; decide +kernel
  · show (bl _).data.toList ∈ hosts; rw [bl_list]; decide +kernel
  · show (bl _).data.toList ∈ hosts; rw [bl_list]; decide +kernel
  · show (bl _).data.toList ∈ hosts; rw [bl_list]; decide +kernel
  · show (bl _).data.toList ∈ hosts; rw [bl_list]; decide +kernel
  · show (bl _).data.toList ∈ hosts; rw [bl_list]; decide +kernel
  · show (bl _).data.toList ∈ hosts; rw [bl_list]; decide +kernel

theorem hn_gs : GsEx 42 hostS 1 := by
  intro zs d h0 h1
  have hb := (nextR_spec zs 19 d h0 (by omega) (by omega) (by omega)).1
  refine ⟨(gS hnL (nextR (intsV zs) d 19), d + 1), gS_in (m := 19) rfl hn_all hb.1 hb.2, by show 0 ≤ d + 1; omega, by show d + 1 ≤ d + 1; omega, ?_⟩
  exact FnOK.ftree SG1_ok mixed Tryz.func42 hn_some (hn_eq (intsV zs) d (fun u o => u = .string (gS hnL (nextR (intsV zs) d 19)) ∧ o = some (strm (intsV zs) (d + 1)))) (dr_mk h0 (by omega) (rg_mk h0 (by omega) rfl (by decide) ⟨rfl, rfl⟩))

/-! QueryName -/
noncomputable def SQn (n : Int) : SC := ⟨idn, spOr spWd (spOr spJr (spNk 5 n)), true, true⟩
theorem SQn_ok (n : Int) : (SQn n).cfg.OK Tryz.prog := (spWd_ok.or (spJr_ok.or (spNk_ok 5 n))).cfg
def qwL : List Value := [.string ⟨#[97, 61, 49]⟩, .string ⟨#[98, 61, 50]⟩, .string ⟨#[97, 61]⟩, .string ⟨#[61, 120]⟩, .string ⟨#[61]⟩, .string ⟨#[99]⟩, .string ⟨#[]⟩, .string ⟨#[97, 61, 37, 52, 49, 43, 37, 50, 66]⟩, .string ⟨#[100, 61, 120, 37, 50, 54, 121]⟩, .string ⟨#[98, 61, 37, 99, 51]⟩, .string ⟨#[97, 61, 49, 61, 50]⟩, .string ⟨#[97, 63, 98, 61, 47]⟩]
def oqL (W : ByteArray) : List Value := [.string ⟨#[35]⟩, .string ⟨#[97, 37]⟩, .string ⟨#[37, 103, 49, 61, 50]⟩, .string ⟨#[97, 32, 98]⟩, .string ⟨#[128]⟩, .string W]
noncomputable def joA (L : List ByteArray) : ByteArray := bl (Lib.join (L.map (·.data.toList)) [38])
noncomputable def qnT (xs : Array Value) (d : Int) (q : ByteArray) (Q : Value → Option Obj → Prop) : Prop :=
  dr xs d (bif nextR xs d 12 == 0 then bif decide (0 ≤ d + 1) && decide (d + 1 ≤ 1000) && allInts xs && true && true && true then dr xs (d + 1 + 101) (rg (nextR xs (d + 1 + 101) 6) 6 6 (Q (.string (gS (oqL w101) (nextR xs (d + 1 + 101) 6))) (some (strm xs (d + 1 + 101 + 1))))) else False else Q (.string q) (some (strm xs (d + 1))))
noncomputable def qnW (xs : Array Value) (Q : Value → Option Obj → Prop) : Nat → Int → List ByteArray → Prop
  | 0, d, L => bif lenJ (L.map Value.string) ⟨#[38]⟩ then qnT xs d (joA L) Q else False
  | n + 1, d, L => dr xs d (rg (nextR xs d 12) 12 12 (qnW xs Q n (d + 1) (L ++ [gS qwL (nextR xs d 12)])))
set_option maxRecDepth 100000 in
theorem qn0 (xs : Array Value) (d : Int) (Q : Value → Option Obj → Prop) : ffn Tryz.prog (SQn 0) [] 3000 [] Tryz.f44 [.pointer (some ⟨0, 0, none⟩)] (Ev.h1 (strm xs d)) (fun v h => Q v (h.get 0)) =
    drK xs d 5 0 (qnT xs (d + 1) ⟨#[]⟩ Q) := by kernel_rfl
set_option maxRecDepth 100000 in
theorem qn1 (xs : Array Value) (d : Int) (Q : Value → Option Obj → Prop) : ffn Tryz.prog (SQn 1) [] 3000 [] Tryz.f44 [.pointer (some ⟨0, 0, none⟩)] (Ev.h1 (strm xs d)) (fun v h => Q v (h.get 0)) =
    drK xs d 5 1 (qnW xs Q 1 (d + 1) []) := by kernel_rfl
set_option maxRecDepth 100000 in
theorem qn2 (xs : Array Value) (d : Int) (Q : Value → Option Obj → Prop) : ffn Tryz.prog (SQn 2) [] 3000 [] Tryz.f44 [.pointer (some ⟨0, 0, none⟩)] (Ev.h1 (strm xs d)) (fun v h => Q v (h.get 0)) =
    drK xs d 5 2 (qnW xs Q 2 (d + 1) []) := by kernel_rfl
set_option maxRecDepth 100000 in
theorem qn3 (xs : Array Value) (d : Int) (Q : Value → Option Obj → Prop) : ffn Tryz.prog (SQn 3) [] 3000 [] Tryz.f44 [.pointer (some ⟨0, 0, none⟩)] (Ev.h1 (strm xs d)) (fun v h => Q v (h.get 0)) =
    drK xs d 5 3 (qnW xs Q 3 (d + 1) []) := by kernel_rfl
set_option maxRecDepth 100000 in
theorem qn4 (xs : Array Value) (d : Int) (Q : Value → Option Obj → Prop) : ffn Tryz.prog (SQn 4) [] 3000 [] Tryz.f44 [.pointer (some ⟨0, 0, none⟩)] (Ev.h1 (strm xs d)) (fun v h => Q v (h.get 0)) =
    drK xs d 5 4 (qnW xs Q 4 (d + 1) []) := by kernel_rfl
theorem someQN : Tryz.f44.body.isSome = true := by kernel_rfl
def qryS (s : ByteArray) : Prop := s.size ≤ 10000 ∧ (pqE s.data.toList = 0 → (pqL s.data.toList).length ≤ 4)
def wrdS (s : ByteArray) : Prop := s.size ≤ 9 ∧ (38 : UInt8) ∉ s.data.toList
theorem w101_q : qryS w101 := by
  have e : w101.data.toList = Lib.join ((strsOf (xR 101)).map (·.data.toList)) [38] := bl_list _
  have hs : w101.size = (Lib.join ((strsOf (xR 101)).map (·.data.toList)) [38]).length := bl_size _
  unfold qryS
  rw [e, hs]
  exact ⟨by decide +kernel, by decide +kernel⟩
theorem oq_all : ∀ v ∈ oqL w101, qryS (toStr v) := by
  intro v hv
  simp only [oqL, List.mem_cons, List.not_mem_nil, or_false] at hv
  rcases hv with rfl | rfl | rfl | rfl | rfl | rfl
  · exact ⟨by decide +kernel, by decide +kernel⟩
  · exact ⟨by decide +kernel, by decide +kernel⟩
  · exact ⟨by decide +kernel, by decide +kernel⟩
  · exact ⟨by decide +kernel, by decide +kernel⟩
  · exact ⟨by decide +kernel, by decide +kernel⟩
  · exact w101_q
theorem qw_all : ∀ v ∈ qwL, wrdS (toStr v) := by
  intro v hv
  simp only [qwL, List.mem_cons, List.not_mem_nil, or_false] at hv
  rcases hv with rfl | rfl | rfl | rfl | rfl | rfl | rfl | rfl | rfl | rfl | rfl | rfl
  · exact ⟨by decide +kernel, by decide +kernel⟩
  · exact ⟨by decide +kernel, by decide +kernel⟩
  · exact ⟨by decide +kernel, by decide +kernel⟩
  · exact ⟨by decide +kernel, by decide +kernel⟩
  · exact ⟨by decide +kernel, by decide +kernel⟩
  · exact ⟨by decide +kernel, by decide +kernel⟩
  · exact ⟨by decide +kernel, by decide +kernel⟩
  · exact ⟨by decide +kernel, by decide +kernel⟩
  · exact ⟨by decide +kernel, by decide +kernel⟩
  · exact ⟨by decide +kernel, by decide +kernel⟩
  · exact ⟨by decide +kernel, by decide +kernel⟩
  · exact ⟨by decide +kernel, by decide +kernel⟩
theorem joiT_len {m : Nat} : ∀ {L : List (List UInt8)}, (∀ x ∈ L, x.length ≤ m) → (Lib.joinTail [38] L).length ≤ (m + 1) * L.length
  | [], _ => Nat.le_refl _
  | x :: r, h => by
    have h1 := joiT_len (L := r) fun y hy => h y (by simp [hy])
    have h2 := h x (by simp)
    have e : Lib.joinTail [38] (x :: r) = ([38] ++ x) ++ Lib.joinTail [38] r := by simp [Lib.joinTail]
    rw [e, List.length_append, List.length_append, List.length_singleton, List.length_cons, Nat.mul_succ]
    omega
theorem joi_len {m : Nat} {L : List (List UInt8)} (h : ∀ x ∈ L, x.length ≤ m) : (Lib.join L [38]).length ≤ (m + 1) * L.length := by
  cases L with
  | nil => exact Nat.zero_le _
  | cons x r =>
    have h1 := joiT_len (L := r) fun y hy => h y (by simp [hy])
    have h2 := h x (by simp)
    rw [Lib.join_cons, List.length_append, List.length_cons, Nat.mul_succ]
    omega
def QFin (zs : List Int) (e : Int) (T : (Value → Option Obj → Prop) → Prop) : Prop :=
  ∃ r : ByteArray × Int, qryS r.1 ∧ 0 ≤ r.2 ∧ r.2 ≤ e ∧ ∀ Q : Value → Option Obj → Prop, Q (.string r.1) (some (strm (intsV zs) r.2)) → T Q
theorem qnT_ex (zs : List Int) {q : ByteArray} (hq : qryS q) {d : Int} (h0 : 0 ≤ d) (h1 : d ≤ 300) : QFin zs (d + 110) (qnT (intsV zs) d q) := by
  cases c0 : (nextR (intsV zs) d 12 == 0) with
  | true =>
    have hb := (nextR_spec zs 6 (d + 1 + 101) (by omega) (by omega) (by omega) (by omega)).1
    refine ⟨(gS (oqL w101) (nextR (intsV zs) (d + 1 + 101) 6), d + 1 + 101 + 1), gS_in (m := 6) rfl oq_all hb.1 hb.2, by show 0 ≤ d + 1 + 101 + 1; omega, by show d + 1 + 101 + 1 ≤ d + 110; omega, fun Q hQ => ?_⟩
    refine dr_mk h0 (by omega) (pick_t c0 (need_mk ?_ (dr_mk (by omega) (by omega) (rg_mk (by omega) (by omega) rfl (by decide) hQ))))
    rw [allInts_intsV]
    simp
    omega
  | false => exact ⟨(q, d + 1), hq, by show 0 ≤ d + 1; omega, by show d + 1 ≤ d + 110; omega, fun Q hQ => dr_mk h0 (by omega) (pick_f c0 hQ)⟩
theorem qnW_ex (zs : List Int) : ∀ (n : Nat) (d : Int) (L : List ByteArray), (∀ x ∈ L, wrdS x) → L.length + n ≤ 4 → 0 ≤ d → d + n ≤ 200 → QFin zs (d + n + 110) fun Q => qnW (intsV zs) Q n d L
  | 0, d, L, h1, h2, h3, h4 => by
    have hL : ∀ x ∈ L.map (·.data.toList), x.length ≤ 9 ∧ (38 : UInt8) ∉ x := by
      intro x hx
      obtain ⟨y, hy, rfl⟩ := List.mem_map.1 hx
      have := h1 y hy
      unfold wrdS at this
      rw [show y.size = y.data.toList.length from (by rw [← bl_size, bl_self])] at this
      exact this
    have hj := joi_len (m := 9) (fun x hx => (hL x hx).1)
    rw [List.length_map] at hj
    have hjo : (Lib.join (L.map (·.data.toList)) [38]).length ≤ 40 := by omega
    have hq : qryS (joA L) := by
      unfold qryS joA
      rw [bl_size, bl_list]
      refine ⟨by omega, fun _ => ?_⟩
      have := spl_join (ws := L.map (·.data.toList)) fun w hw => (hL w hw).2
      rw [List.length_map] at this
      exact pq_few (by omega)
    obtain ⟨r, r1, r2, r3, r4⟩ := qnT_ex zs hq h3 (by omega)
    refine ⟨r, r1, r2, by simpa using r3, fun Q hQ => need_mk ?_ (r4 Q hQ)⟩
    unfold lenJ
    rw [strs_str]
    exact Nat.ble_eq_true_of_le (Nat.le_trans hjo (by omega))
  | n + 1, d, L, h1, h2, h3, h4 => by
    have hb := (nextR_spec zs 12 d h3 (by omega) (by omega) (by omega)).1
    obtain ⟨r, r1, r2, r3, r4⟩ := qnW_ex zs n (d + 1) (L ++ [gS qwL (nextR (intsV zs) d 12)]) (by
      intro x hx
      rcases List.mem_append.1 hx with h | h
      · exact h1 x h
      · rw [List.mem_singleton.1 h]; exact gS_in (m := 12) rfl qw_all hb.1 hb.2) (by rw [List.length_append]; simp; omega) (by omega) (by omega)
    exact ⟨r, r1, r2, by omega, fun Q hQ => dr_mk h3 (by omega) (rg_mk h3 (by omega) rfl (by decide) (r4 Q hQ))⟩
theorem qn_gs : GsEx 44 qryS 150 := by
  intro zs d h0 h1
  have hb := (nextR_spec zs 5 d h0 (by omega) (by omega) (by omega)).1
  have hk : nextR (intsV zs) d 5 = 0 ∨ nextR (intsV zs) d 5 = 1 ∨ nextR (intsV zs) d 5 = 2 ∨ nextR (intsV zs) d 5 = 3 ∨ nextR (intsV zs) d 5 = 4 := by omega
  rcases hk with h | h | h | h | h
  · obtain ⟨r, r1, r2, r3, r4⟩ := qnT_ex zs (q := ⟨#[]⟩) ⟨by decide, by decide +kernel⟩ (d := d + 1) (by omega) (by omega)
    exact ⟨r, r1, by omega, by omega, FnOK.ftree (SQn_ok 0) mixed Tryz.func44 someQN (qn0 (intsV zs) d (fun u o => u = .string r.1 ∧ o = some (strm (intsV zs) r.2))) (drK_mk h0 (by omega) h (r4 _ ⟨rfl, rfl⟩))⟩
  · obtain ⟨r, r1, r2, r3, r4⟩ := qnW_ex zs 1 (d + 1) [] (by intro x hx; cases hx) (by simp) (by omega) (by omega)
    exact ⟨r, r1, by omega, by omega, FnOK.ftree (SQn_ok 1) mixed Tryz.func44 someQN (qn1 (intsV zs) d (fun u o => u = .string r.1 ∧ o = some (strm (intsV zs) r.2))) (drK_mk h0 (by omega) h (r4 _ ⟨rfl, rfl⟩))⟩
  · obtain ⟨r, r1, r2, r3, r4⟩ := qnW_ex zs 2 (d + 1) [] (by intro x hx; cases hx) (by simp) (by omega) (by omega)
    exact ⟨r, r1, by omega, by omega, FnOK.ftree (SQn_ok 2) mixed Tryz.func44 someQN (qn2 (intsV zs) d (fun u o => u = .string r.1 ∧ o = some (strm (intsV zs) r.2))) (drK_mk h0 (by omega) h (r4 _ ⟨rfl, rfl⟩))⟩
  · obtain ⟨r, r1, r2, r3, r4⟩ := qnW_ex zs 3 (d + 1) [] (by intro x hx; cases hx) (by simp) (by omega) (by omega)
    exact ⟨r, r1, by omega, by omega, FnOK.ftree (SQn_ok 3) mixed Tryz.func44 someQN (qn3 (intsV zs) d (fun u o => u = .string r.1 ∧ o = some (strm (intsV zs) r.2))) (drK_mk h0 (by omega) h (r4 _ ⟨rfl, rfl⟩))⟩
  · obtain ⟨r, r1, r2, r3, r4⟩ := qnW_ex zs 4 (d + 1) [] (by intro x hx; cases hx) (by simp) (by omega) (by omega)
    exact ⟨r, r1, by omega, by omega, FnOK.ftree (SQn_ok 4) mixed Tryz.func44 someQN (qn4 (intsV zs) d (fun u o => u = .string r.1 ∧ o = some (strm (intsV zs) r.2))) (drK_mk h0 (by omega) h (r4 _ ⟨rfl, rfl⟩))⟩
end Go.Proofs.YtnaeehnkabojdaaGreatDoor
