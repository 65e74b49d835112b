/-
  Records as lines: a line; the text.
-/
import Derived.Test.YtfhhhfgbedddhaaGreatDoorRcC
namespace Go.Proofs.YtfhhhfgbedddhaaGreatDoor
open Go.Ev Go.RowKit RecLaw

noncomputable def SD1 : SC := ⟨idn, spOr spIt (spOr spDs spJr), true, true⟩
theorem SD1_ok : SD1.cfg.OK Tryz.prog := (spIt_ok.or (spDs_ok.or spJr_ok)).cfg
noncomputable def itT (n : Int) (K : ByteArray → Prop) : Prop := bif decide (0 ≤ n) && decide (n ≤ 1000000000000000) then K (bl (Lib.decDigits n.toNat)) else False
noncomputable def dsT (s : ByteArray) (K : ByteArray → Prop) : Prop := bif okN s then K (dsB s) else False
noncomputable def jnS (w : List ByteArray) : ByteArray := bl (Lib.join ((strsOf (w.map .string)).map (·.data.toList)) (ByteArray.mk #[32]).data.toList)
noncomputable def rtT (r : Rc) (Q : Value → Prop) : Prop :=
  itT r.at_ fun w0 => dsT (bl r.rt) fun w1 => dsT (bl r.cl) fun w2 => dsT (bl r.ac) fun w3 => dsT (bl r.ins) fun w4 => itT r.st fun w5 => itT r.fd fun w6 =>
    bif lenJ ([w0, w1, w2, w3, w4, w5, w6].map .string) ⟨#[32]⟩ then bif Nat.ble ((jnS [w0, w1, w2, w3, w4, w5, w6]).size + 1) 1000000 then Q (.string (jnS [w0, w1, w2, w3, w4, w5, w6] ++ ⟨#[10]⟩)) else False else False
theorem rt (r : Rc) (Q : Value → Prop) : ffn Tryz.prog SD1 [] 600 [] Tryz.f18 [rcV r] h0 (fun v _ => Q v) = rtT r Q := by kernel_rfl
theorem someRT : Tryz.f18.body.isSome = true := by kernel_rfl
theorem itT_ok {n : Int} (h0 : 0 ≤ n) (h1 : n ≤ 1000000000000000) {K : ByteArray → Prop} (hK : K (bl (Lib.decDigits n.toNat))) : itT n K := need_mk (by simp [h0, h1]) hK
theorem dsT_ok {s : List UInt8} (hs : s ∈ allN) {K : ByteArray → Prop} (hK : K (bl (dashB s))) : dsT (bl s) K := need_mk (okN_bl hs) (by rw [dsB_bl]; exact hK)
theorem jn_line (r : Rc) : jnS [bl (Lib.decDigits r.at_.toNat), bl (dashB r.rt), bl (dashB r.cl), bl (dashB r.ac), bl (dashB r.ins), bl (Lib.decDigits r.st.toNat), bl (Lib.decDigits r.fd.toNat)] = bl (line r) := by
  have e : (strsOf ([bl (Lib.decDigits r.at_.toNat), bl (dashB r.rt), bl (dashB r.cl), bl (dashB r.ac), bl (dashB r.ins), bl (Lib.decDigits r.st.toNat), bl (Lib.decDigits r.fd.toNat)].map .string)).map (·.data.toList) = Lib.decDigits r.at_.toNat :: words r := by
    simp only [strsOf, List.map_cons, List.map_nil, toStr, bl_list, words]
  unfold jnS
  rw [e]
  show bl (Lib.join _ [32]) = _
  rw [join_body]
  rfl
theorem rt_fn {r : Rc} (h : Rd r) : FnOK 0 Tryz.prog 18 ⟨[rcV r]⟩ h0 (fun v _ => v = .string (bl (line r ++ [10]))) := by
  have hl := line_len h
  obtain ⟨⟨n1, n2, n3, n4⟩, a1, a2, a3, a4, a5, a6, a7⟩ := id h
  refine FnOK.ftree SD1_ok mixed Tryz.func18 someRT (rt r _) ?_
  refine itT_ok a1 (by omega) (dsT_ok n1 (dsT_ok n2 (dsT_ok n3 (dsT_ok n4 (itT_ok (by omega) (by omega) (itT_ok a6 (by omega) ?_))))))
  have hj := jn_line r
  have hb : Nat.ble (line r).length 100000 = true := Nat.ble_eq_true_of_le (by omega)
  refine need_mk ?_ ?_
  · unfold lenJ
    have := congrArg (fun s : ByteArray => s.data.toList.length) hj
    simp only [bl_list] at this
    unfold jnS at this
    rw [bl_list] at this
    rw [this]
    exact hb
  · rw [hj]
    refine need_mk (by rw [bl_size]; exact Nat.ble_eq_true_of_le (by omega)) ?_
    show Value.string (bl (line r) ++ bl [10]) = _
    rw [bl_app]
/-- A record out of its cells. -/
def unR (c : Array Value) : Rc :=
  ⟨toInt (c.toList.getD 0 undef), (toStr (c.toList.getD 1 undef)).data.toList, (toStr (c.toList.getD 2 undef)).data.toList, (toStr (c.toList.getD 3 undef)).data.toList, (toStr (c.toList.getD 4 undef)).data.toList, toInt (c.toList.getD 5 undef), toInt (c.toList.getD 6 undef)⟩
theorem unR_rc (r : Rc) : unR ⟨rcC r⟩ = r := by
  obtain ⟨a0, a1, a2, a3, a4, a5, a6⟩ := r
  show Rc.mk a0 (bl a1).data.toList (bl a2).data.toList (bl a3).data.toList (bl a4).data.toList a5 a6 = _
  rw [bl_list, bl_list, bl_list, bl_list]
open Classical in
noncomputable def okRc (c : Array Value) : Bool := @decide (∃ r, Rd r ∧ c = ⟨rcC r⟩) (Classical.propDecidable _)
theorem okRc_iff {c : Array Value} : okRc c = true ↔ ∃ r, Rd r ∧ c = ⟨rcC r⟩ := by unfold okRc; exact @decide_eq_true_iff _ (Classical.propDecidable _)
noncomputable def rtS (c : Array Value) : ByteArray := bl (line (unR c) ++ [10])
theorem rtS_rc (r : Rc) : rtS ⟨rcC r⟩ = bl (line r ++ [10]) := by unfold rtS; rw [unR_rc]
noncomputable def spRt (f : FuncId) (args : Array Value) (h : AH) : Option (Bool × Value × AH) :=
  cond (Nat.beq f 18) (match args with
    | ⟨[.agg c]⟩ => some (okRc c, .string (rtS c), h)
    | _ => none) none
theorem spRt_ok : SpOK spRt := by
  intro f args h v h' hs
  unfold spRt at hs
  obtain ⟨hf, hs2⟩ := cond_some hs
  clear hs
  have := Nat.eq_of_beq_eq_true hf
  subst this
  split at hs2
  · injection hs2 with hs
    injection hs with hb hs
    injection hs with hv hh
    subst hv hh
    rename_i c
    obtain ⟨r, hr, rfl⟩ := okRc_iff.1 hb
    rw [rtS_rc]
    exact ⟨FnOK.pure (rt_fn hr) rfl rfl h, Nat.le_refl _⟩
  · cases hs2

/-! Text -/
noncomputable def ST1 : SC := ⟨idn, spOr spRt spCk, false, true⟩
theorem ST1_ok : ST1.cfg.OK Tryz.prog := (spRt_ok.or spCk_ok).cfg
noncomputable def ST2 : SC := ⟨idn, spOr spRt spCk, true, true⟩
theorem ST2_ok : ST2.cfg.OK Tryz.prog := (spRt_ok.or spCk_ok).cfg
def byV (b : UInt8) : Value := .int .u8 (b.toNat : Int)
noncomputable def wr0 (s : ByteArray) (K : List Value → Nat → Prop) : Prop :=
  bif Nat.ble (0 + s.size) 0 then False else bif Nat.ble (0 + s.size) 9223372036854775807 && Nat.ble ((0 + s.size) * 1) 140737488355328 then K (s.data.toList.map byV) s.size else False
noncomputable def wrT (cs : List Value) (k : Nat) (s : ByteArray) (K : List Value → Nat → Prop) : Prop :=
  bif Nat.ble (k + s.size) k then False else bif Nat.ble (k + s.size) 9223372036854775807 && Nat.ble ((k + s.size) * 1) 140737488355328 then
    bif Nat.ble (0 + k * 1) (Array.mk cs).size && true && (s.data.toList.map byV).all oneCell then K (List.take (k * 1) (List.drop 0 (Array.mk cs).toList) ++ s.data.toList.map byV) (k + s.size) else False else False
noncomputable def enT (cs : List Value) (k : Nat) (Q : Value → Prop) : Prop :=
  bif decide ((k : Int) > 200000) then Q (.tuple ⟨[.string ⟨#[]⟩, .int .i64 2]⟩) else
    bif Nat.ble 1 k then bif decide (0 < (k : Int)) && decide ((k : Int) ≤ 9223372036854775807) && true && true && true && (0 + (k : Int).toNat).ble (Array.mk cs).size && (List.take (k : Int).toNat (List.drop 0 (Array.mk cs).toList)).all isByte then
      Q (.tuple ⟨[.string ⟨⟨List.map toByte (List.take (k : Int).toNat (List.drop 0 (Array.mk cs).toList))⟩⟩, .int .i64 0]⟩) else False else False
def tv (L : List Rc) (i : Int) : List Value := [.pointer (some ⟨0, 0, none⟩), fz ⟨L.map rcV⟩, .int .i64 (L.length : Int), .int .i64 i]
def tN : AH := ⟨1, 1, [(0, .cells ⟨[.pointer none, .slice none 0 0]⟩ 48 (0, 0))]⟩
def tH (cs : List Value) (k : Nat) : AH := ⟨2, 2, [(0, .cells ⟨[.pointer (some ⟨0, 0, none⟩), .slice (some ⟨1, 0, none⟩) k k]⟩ 48 (0, 0)), (1, .cells ⟨cs⟩ 5 (0, 0))]⟩
set_option maxRecDepth 20000 in
theorem txrN (B : List Value → AH → Prop) (Q : AExit → List Value → AH → Prop) : ∀ (L : List Rc) (i : Nat), L.length ≤ 5 → i < L.length → once 0 Tryz.prog ST1 [] noHooks 600 26 [5, 13, 14, 15] [1] [5] [1] (oneLoop (codeOf Tryz.f6) 6) (tv L (i : Int)) tN B Q =
    bif okRc ⟨rcC (L.getD i rc0)⟩ then wr0 (rtS ⟨rcC (L.getD i rc0)⟩) (fun cs k => NoNames (.cells ⟨cs⟩ 5 (0, 0)) ∧ B (tv L ((i + 1 : Nat) : Int)) (tH cs k)) else False
  | [a], 0, _, _ => by kernel_rfl
  | [a, b], 0, _, _ => by kernel_rfl
  | [a, b], 1, _, _ => by kernel_rfl
  | [a, b, c], 0, _, _ => by kernel_rfl
  | [a, b, c], 1, _, _ => by kernel_rfl
  | [a, b, c], 2, _, _ => by kernel_rfl
  | [a, b, c, d], 0, _, _ => by kernel_rfl
  | [a, b, c, d], 1, _, _ => by kernel_rfl
  | [a, b, c, d], 2, _, _ => by kernel_rfl
  | [a, b, c, d], 3, _, _ => by kernel_rfl
  | [a, b, c, d, e], 0, _, _ => by kernel_rfl
  | [a, b, c, d, e], 1, _, _ => by kernel_rfl
  | [a, b, c, d, e], 2, _, _ => by kernel_rfl
  | [a, b, c, d, e], 3, _, _ => by kernel_rfl
  | [a, b, c, d, e], 4, _, _ => by kernel_rfl
  | _ :: _ :: _ :: _ :: _ :: _ :: _, _, h, _ => absurd h (by simp)
  | [], _, _, h => absurd h (by simp)
  | [_], i + 1, _, h => absurd h (by simp)
  | [_, _], i + 2, _, h => absurd h (by simp)
  | [_, _, _], i + 3, _, h => absurd h (by simp)
  | [_, _, _, _], i + 4, _, h => absurd h (by simp)
  | [_, _, _, _, _], i + 5, _, h => absurd h (by simp)
set_option maxRecDepth 20000 in
theorem txrB (cs : List Value) (k : Nat) (B : List Value → AH → Prop) (Q : AExit → List Value → AH → Prop) : ∀ (L : List Rc) (i : Nat), L.length ≤ 5 → i < L.length → once 0 Tryz.prog ST1 [] noHooks 600 26 [5, 13, 14, 15] [1] [5] [1] (oneLoop (codeOf Tryz.f6) 6) (tv L (i : Int)) (tH cs k) B Q =
    bif okRc ⟨rcC (L.getD i rc0)⟩ then wrT cs k (rtS ⟨rcC (L.getD i rc0)⟩) (fun cs k => NoNames (.cells ⟨cs⟩ 5 (0, 0)) ∧ B (tv L ((i + 1 : Nat) : Int)) (tH cs k)) else False
  | [a], 0, _, _ => by kernel_rfl
  | [a, b], 0, _, _ => by kernel_rfl
  | [a, b], 1, _, _ => by kernel_rfl
  | [a, b, c], 0, _, _ => by kernel_rfl
  | [a, b, c], 1, _, _ => by kernel_rfl
  | [a, b, c], 2, _, _ => by kernel_rfl
  | [a, b, c, d], 0, _, _ => by kernel_rfl
  | [a, b, c, d], 1, _, _ => by kernel_rfl
  | [a, b, c, d], 2, _, _ => by kernel_rfl
  | [a, b, c, d], 3, _, _ => by kernel_rfl
  | [a, b, c, d, e], 0, _, _ => by kernel_rfl
  | [a, b, c, d, e], 1, _, _ => by kernel_rfl
  | [a, b, c, d, e], 2, _, _ => by kernel_rfl
  | [a, b, c, d, e], 3, _, _ => by kernel_rfl
  | [a, b, c, d, e], 4, _, _ => by kernel_rfl
  | _ :: _ :: _ :: _ :: _ :: _ :: _, _, h, _ => absurd h (by simp)
  | [], _, _, h => absurd h (by simp)
  | [_], i + 1, _, h => absurd h (by simp)
  | [_, _], i + 2, _, h => absurd h (by simp)
  | [_, _, _], i + 3, _, h => absurd h (by simp)
  | [_, _, _, _], i + 4, _, h => absurd h (by simp)
  | [_, _, _, _, _], i + 5, _, h => absurd h (by simp)
theorem txEN (B : List Value → AH → Prop) (Q : AExit → List Value → AH → Prop) : ∀ L : List Rc, L.length ≤ 5 → once 0 Tryz.prog ST1 [] noHooks 600 26 [5, 13, 14, 15] [1] [5] [1] (oneLoop (codeOf Tryz.f6) 6) (tv L (L.length : Int)) tN B Q = Q (.exit 0) [.pointer (some ⟨0, 0, none⟩)] tN
  | [], _ => by kernel_rfl
  | [a], _ => by kernel_rfl
  | [a, b], _ => by kernel_rfl
  | [a, b, c], _ => by kernel_rfl
  | [a, b, c, d], _ => by kernel_rfl
  | [a, b, c, d, e], _ => by kernel_rfl
  | _ :: _ :: _ :: _ :: _ :: _ :: _, h => absurd h (by simp)
theorem txEB (cs : List Value) (k : Nat) (B : List Value → AH → Prop) (Q : AExit → List Value → AH → Prop) : ∀ L : List Rc, L.length ≤ 5 → once 0 Tryz.prog ST1 [] noHooks 600 26 [5, 13, 14, 15] [1] [5] [1] (oneLoop (codeOf Tryz.f6) 6) (tv L (L.length : Int)) (tH cs k) B Q = (NoNames (.cells ⟨cs⟩ 5 (0, 0)) ∧ Q (.exit 0) [.pointer (some ⟨0, 0, none⟩)] (tH cs k))
  | [], _ => by kernel_rfl
  | [a], _ => by kernel_rfl
  | [a, b], _ => by kernel_rfl
  | [a, b, c], _ => by kernel_rfl
  | [a, b, c, d], _ => by kernel_rfl
  | [a, b, c, d, e], _ => by kernel_rfl
  | _ :: _ :: _ :: _ :: _ :: _ :: _, h => absurd h (by simp)
theorem txfN (vs : List Value) (C : List Value → AH → Prop) (Q : Value → Prop) :
    tfn Tryz.prog ST2 [] (hook1 6 (hookLS 0 26 [5, 13, 14, 15] [1] [5] (fun vals h K => C vals h ∧ K (.exit 0) [.pointer (some ⟨0, 0, none⟩)] tN))) 600 [] Tryz.f6 [fz ⟨vs⟩] h0 (fun v _ => Q v) =
      bif okV vs then bif ckC vs != 0 then Q (.tuple ⟨[.string ⟨#[]⟩, .int .i64 (ckC vs)]⟩) else C [.pointer (some ⟨0, 0, none⟩), fz ⟨vs⟩, .int .i64 ((Array.mk vs).size : Int), .int .i64 0] tN ∧ Q (.tuple ⟨[.string ⟨#[]⟩, .int .i64 0]⟩) else False := by kernel_rfl
theorem txfB (vs : List Value) (cs : List Value) (k : Nat) (C : List Value → AH → Prop) (Q : Value → Prop) :
    tfn Tryz.prog ST2 [] (hook1 6 (hookLS 0 26 [5, 13, 14, 15] [1] [5] (fun vals h K => C vals h ∧ K (.exit 0) [.pointer (some ⟨0, 0, none⟩)] (tH cs k)))) 600 [] Tryz.f6 [fz ⟨vs⟩] h0 (fun v _ => Q v) =
      bif okV vs then bif ckC vs != 0 then Q (.tuple ⟨[.string ⟨#[]⟩, .int .i64 (ckC vs)]⟩) else C [.pointer (some ⟨0, 0, none⟩), fz ⟨vs⟩, .int .i64 ((Array.mk vs).size : Int), .int .i64 0] tN ∧ enT cs k Q else False := by kernel_rfl
end Go.Proofs.YtfhhhfgbedddhaaGreatDoor
