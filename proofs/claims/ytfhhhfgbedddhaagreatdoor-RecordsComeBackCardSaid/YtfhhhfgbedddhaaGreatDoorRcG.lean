/-
  Records as lines: the records as they are drawn.
-/
import Derived.Test.YtfhhhfgbedddhaaGreatDoorRcF
namespace Go.Proofs.YtfhhhfgbedddhaaGreatDoor
open Go.Ev Go.RowKit RecLaw

/-! Equal -/
noncomputable def SE1 : SC := ⟨idn, fun _ _ _ => none, false, true⟩
theorem SE1_ok : SE1.cfg.OK Tryz.prog := none_ok.cfg
noncomputable def eqR (r : Rc) : Bool := r.at_ == r.at_ && (bl r.rt == bl r.rt && (bl r.cl == bl r.cl && (bl r.ac == bl r.ac && (bl r.ins == bl r.ins && (r.st == r.st && (r.fd == r.fd && true))))))
def eqT (F : Prop) : List Rc → Prop → Prop
  | [], K => K
  | r :: l, K => bif !eqR r then F else eqT F l K
theorem eq0  (Q : Value → Prop) : ffn Tryz.prog SE1 [] 600 [] Tryz.f8 [fz ⟨[]⟩, fz ⟨[]⟩] h0 (fun v _ => Q v) = eqT (Q (.bool false)) [] (Q (.bool true)) := by kernel_rfl
theorem eq1 (a : Rc) (Q : Value → Prop) : ffn Tryz.prog SE1 [] 600 [] Tryz.f8 [fz ⟨[rcV a]⟩, fz ⟨[rcV a]⟩] h0 (fun v _ => Q v) = eqT (Q (.bool false)) [a] (Q (.bool true)) := by kernel_rfl
theorem eq2 (a b : Rc) (Q : Value → Prop) : ffn Tryz.prog SE1 [] 600 [] Tryz.f8 [fz ⟨[rcV a, rcV b]⟩, fz ⟨[rcV a, rcV b]⟩] h0 (fun v _ => Q v) = eqT (Q (.bool false)) [a, b] (Q (.bool true)) := by kernel_rfl
theorem eq3 (a b c : Rc) (Q : Value → Prop) : ffn Tryz.prog SE1 [] 600 [] Tryz.f8 [fz ⟨[rcV a, rcV b, rcV c]⟩, fz ⟨[rcV a, rcV b, rcV c]⟩] h0 (fun v _ => Q v) = eqT (Q (.bool false)) [a, b, c] (Q (.bool true)) := by kernel_rfl
theorem eq4 (a b c d : Rc) (Q : Value → Prop) : ffn Tryz.prog SE1 [] 600 [] Tryz.f8 [fz ⟨[rcV a, rcV b, rcV c, rcV d]⟩, fz ⟨[rcV a, rcV b, rcV c, rcV d]⟩] h0 (fun v _ => Q v) = eqT (Q (.bool false)) [a, b, c, d] (Q (.bool true)) := by kernel_rfl
theorem eq5 (a b c d e : Rc) (Q : Value → Prop) : ffn Tryz.prog SE1 [] 600 [] Tryz.f8 [fz ⟨[rcV a, rcV b, rcV c, rcV d, rcV e]⟩, fz ⟨[rcV a, rcV b, rcV c, rcV d, rcV e]⟩] h0 (fun v _ => Q v) = eqT (Q (.bool false)) [a, b, c, d, e] (Q (.bool true)) := by kernel_rfl
theorem someEQ : Tryz.f8.body.isSome = true := by kernel_rfl
theorem ba_self (a : ByteArray) : (a == a) = true := by
  show (a.data == a.data) = true
  simp
theorem eqR_t (r : Rc) : eqR r = true := by
  unfold eqR
  simp only [ba_self, beq_self_eq_true, Bool.and_self]
theorem eqT_ok (F : Prop) {K : Prop} (hK : K) : ∀ L : List Rc, eqT F L K
  | [] => hK
  | r :: l => pick_f (by rw [eqR_t]; rfl) (eqT_ok F hK l)
theorem eq_fn : ∀ {L : List Rc}, L.length ≤ 5 → FnOK 0 Tryz.prog 8 ⟨[fz ⟨L.map rcV⟩, fz ⟨L.map rcV⟩]⟩ h0 (fun v _ => v = .bool true)
  | [], _ => FnOK.ftree SE1_ok mixed Tryz.func8 someEQ (eq0 _) (eqT_ok _ rfl _)
  | [a], _ => FnOK.ftree SE1_ok mixed Tryz.func8 someEQ (eq1 a _) (eqT_ok _ rfl _)
  | [a, b], _ => FnOK.ftree SE1_ok mixed Tryz.func8 someEQ (eq2 a b _) (eqT_ok _ rfl _)
  | [a, b, c], _ => FnOK.ftree SE1_ok mixed Tryz.func8 someEQ (eq3 a b c _) (eqT_ok _ rfl _)
  | [a, b, c, d], _ => FnOK.ftree SE1_ok mixed Tryz.func8 someEQ (eq4 a b c d _) (eqT_ok _ rfl _)
  | [a, b, c, d, e], _ => FnOK.ftree SE1_ok mixed Tryz.func8 someEQ (eq5 a b c d e _) (eqT_ok _ rfl _)
  | _ :: _ :: _ :: _ :: _ :: _ :: _, h => absurd h (by simp)
open Classical in
noncomputable def okEq (vs ws : List Value) : Bool := @decide (vs = ws) (Classical.propDecidable _) && okV vs
noncomputable def spEq (f : FuncId) (args : Array Value) (h : AH) : Option (Bool × Value × AH) :=
  cond (Nat.beq f 8) (match args with
    | ⟨[.func (.yield 0) ⟨vs⟩ ⟨[]⟩, .func (.yield 0) ⟨ws⟩ ⟨[]⟩]⟩ => some (okEq vs ws, .bool true, h)
    | _ => none) none
theorem spEq_ok : SpOK spEq := by
  intro f args h v h' hs
  unfold spEq at hs
  obtain ⟨hf, hs2⟩ := cond_some hs
  clear hs
  have := Nat.eq_of_beq_eq_true hf
  subst this
  split at hs2
  · injection hs2 with hs
    injection hs with hb hs
    injection hs with hv hh
    subst hv hh
    rename_i vs ws
    unfold okEq at hb
    simp only [Bool.and_eq_true, decide_eq_true_eq] at hb
    obtain ⟨rfl, hv⟩ := hb
    obtain ⟨L, hL, rfl⟩ := okV_iff.1 hv
    exact ⟨FnOK.pure (eq_fn hL.1) rfl rfl h, Nat.le_refl _⟩
  · cases hs2

/-! GateRecords -/
noncomputable def SG1 : SC := ⟨idn, spNext [], true, true⟩
theorem SG1_ok : SG1.cfg.OK Tryz.prog := (spNext_ok []).cfg
def gI (l : List Value) (r : Int) : Int := toInt (l.getD (0 + r.toNat * 1) (Value.tuple { toList := [] }))
def gS (l : List Value) (r : Int) : ByteArray := toStr (l.getD (0 + r.toNat * 1) (Value.tuple { toList := [] }))
noncomputable def dr (xs : Array Value) (d : Int) (X : Prop) : Prop := bif decide (0 ≤ d) && decide (d ≤ 1000000) && true && true && true && allInts xs then X else False
noncomputable def rg (r m : Int) (k : Nat) (X : Prop) : Prop := bif decide (0 ≤ r) && decide (r < m) then bif (0 + r.toNat * 1).blt k then X else False else False
theorem dr_mk {zs : List Int} {d : Int} (h0 : 0 ≤ d) (h1 : d ≤ 1000000) {X : Prop} (hX : X) : dr (intsV zs) d X := need_mk (by rw [allInts_intsV]; simp [h0, h1]) hX
theorem rg_mk {zs : List Int} {d m : Int} {k : Nat} (h0 : 0 ≤ d) (h1 : d ≤ 1000000) (hm : m = (k : Int)) (hk : 1 ≤ m ∧ m ≤ 100) {X : Prop} (hX : X) : rg (nextR (intsV zs) d m) m k X := by
  have hb := (nextR_spec zs m d h0 h1 hk.1 (by omega)).1
  refine need_mk (by simp [hb.1, hb.2]) (need_mk ?_ hX)
  rw [Nat.blt, Nat.ble_eq]; omega
def rtL : List Value := [.string ⟨#[114, 97]⟩, .string ⟨#[114, 98]⟩, .string ⟨#[]⟩, .string ⟨#[122, 122]⟩]
def clL : List Value := [.string ⟨#[97, 112, 112, 49]⟩, .string ⟨#[97, 112, 112, 50]⟩, .string ⟨#[]⟩]
def acL : List Value := [.string ⟨#[]⟩, .string ⟨#[111, 110, 101]⟩]
def inL : List Value := [.string ⟨#[105, 97]⟩, .string ⟨#[]⟩]
def stL : List Value := [.int .i64 200, .int .i64 200, .int .i64 304, .int .i64 404, .int .i64 429]
def fdL : List Value := [.int .i64 0, .int .i64 0, .int .i64 1]
def dlL : List Value := [.int .i64 0, .int .i64 1, .int .i64 1296000000, .int .i64 2592000000]
def smL : List Value := [.string ⟨#[114, 97]⟩, .string ⟨#[65]⟩, .string ⟨#[45]⟩]
def atL (a : Int) : List Value := [.int .i64 a, .int .i64 (-1), .int .i64 0, .int .i64 345686400000]
def osL : List Value := [.int .i64 99, .int .i64 600, .int .i64 100, .int .i64 599, .int .i64 (-1099511627776), .int .i64 1099511627776]
def ofL : List Value := [.int .i64 (-1), .int .i64 5, .int .i64 0, .int .i64 4, .int .i64 (-1099511627776), .int .i64 1099511627776]
noncomputable def reT (xs : Array Value) (d at_ : Int) (K : List Value → Prop) : Prop := dr xs d (rg (nextR xs d 4) 4 4 (dr xs (d + 1) (rg (nextR xs (d + 1) 3) 3 3 (dr xs (d + 1 + 1) (rg (nextR xs (d + 1 + 1) 2) 2 2 (dr xs (d + 1 + 1 + 1) (rg (nextR xs (d + 1 + 1 + 1) 2) 2 2 (dr xs (d + 1 + 1 + 1 + 1) (rg (nextR xs (d + 1 + 1 + 1 + 1) 5) 5 5 (dr xs (d + 1 + 1 + 1 + 1 + 1) (rg (nextR xs (d + 1 + 1 + 1 + 1 + 1) 3) 3 3 (K [.int .i64 at_, .string (gS rtL (nextR xs d 4)), .string (gS clL (nextR xs (d + 1) 3)), .string (gS acL (nextR xs (d + 1 + 1) 2)), .string (gS inL (nextR xs (d + 1 + 1 + 1) 2)), .int .i64 (gI stL (nextR xs (d + 1 + 1 + 1 + 1) 5)), .int .i64 (gI fdL (nextR xs (d + 1 + 1 + 1 + 1 + 1) 3))]))))))))))))
noncomputable def deT (xs : Array Value) (d at_ : Int) (K : Int → Prop) : Prop := dr xs d (rg (nextR xs d 4) 4 4 (K (IntKind.i64.wrap (at_ + gI dlL (nextR xs d 4)))))
def gv (out : Value) (at_ n i : Int) : List Value := [.pointer (some ⟨0, 0, none⟩), out, .int .i64 at_, .int .i64 n, .int .i64 i]
def gN (xs : Array Value) (d : Int) : AH := ⟨1, 1, [(0, strm xs d)]⟩
def gB (xs : Array Value) (d : Int) (cs : List Value) : AH := ⟨2, 2, [(0, strm xs d), (1, .cells ⟨cs⟩ 36 (0, 0))]⟩
theorem grN (xs : Array Value) (d at_ n i : Int) (B : List Value → AH → Prop) (Q : AExit → List Value → AH → Prop) : once 1 Tryz.prog SG1 [] noHooks 600 82 [0, 5, 6, 10, 11] [1] [0, 5] [1] (oneLoop (codeOf Tryz.f4) 4) (gv nilV at_ n i) (gN xs d) B Q =
    bif decide (i < n) then reT xs d at_ fun c => deT xs (d + 1 + 1 + 1 + 1 + 1 + 1) at_ fun a => NoNames (.cells ⟨c⟩ 36 (0, 0)) ∧ B (gv (.slice (some ⟨1, 0, none⟩) 1 1) a n (IntKind.i64.wrap (i + 1))) (gB xs (d + 1 + 1 + 1 + 1 + 1 + 1 + 1) c)
    else Q (.exit 0) [.pointer (some ⟨0, 0, none⟩), nilV] (gN xs d) := by kernel_rfl
theorem grB (xs : Array Value) (d at_ n i : Int) (cs : List Value) (k : Nat) (B : List Value → AH → Prop) (Q : AExit → List Value → AH → Prop) : once 1 Tryz.prog SG1 [] noHooks 600 82 [0, 5, 6, 10, 11] [1] [0, 5] [1] (oneLoop (codeOf Tryz.f4) 4) (gv (.slice (some ⟨1, 0, none⟩) k k) at_ n i) (gB xs d cs) B Q =
    bif decide (i < n) then reT xs d at_ fun c => bif (k + 1).ble k then False else bif (k + 1).ble 9223372036854775807 && ((k + 1) * 88).ble 140737488355328 then bif (0 + k * 7).ble (Array.mk cs).size && true && true then
      deT xs (d + 1 + 1 + 1 + 1 + 1 + 1) at_ fun a => NoNames (.cells ⟨List.take (k * 7) (List.drop 0 (Array.mk cs).toList) ++ c⟩ 36 (0, 0)) ∧ B (gv (.slice (some ⟨1, 0, none⟩) (k + 1) (k + 1)) a n (IntKind.i64.wrap (i + 1))) (gB xs (d + 1 + 1 + 1 + 1 + 1 + 1 + 1) (List.take (k * 7) (List.drop 0 (Array.mk cs).toList) ++ c)) else False else False
    else NoNames (.cells ⟨cs⟩ 36 (0, 0)) ∧ Q (.exit 0) [.pointer (some ⟨0, 0, none⟩), .slice (some ⟨1, 0, none⟩) k k] (gB xs d cs) := by kernel_rfl
theorem grfN (xs : Array Value) (d n : Int) (C : List Value → AH → Prop) (Q : Value → Option Obj → Option Obj → Prop) :
    tfn Tryz.prog SG1 [] (hook1 4 (hookLS 1 82 [0, 5, 6, 10, 11] [1] [0, 5] (fun vals h K => C vals h ∧ K (.exit 0) [.pointer (some ⟨0, 0, none⟩), nilV] (gN xs d)))) 600 [] Tryz.f4 [.pointer (some ⟨0, 0, none⟩), .int .i64 n] (Ev.h1 (strm xs 1)) (fun v h => Q v (h.get 0) (h.get (blkOf v))) =
      dr xs 1 (C (gv nilV (nextR xs 1 20) n 0) (gN xs (1 + 1)) ∧ Q nilV (some (strm xs d)) (some (strm xs d))) := by kernel_rfl
noncomputable def odT (xs : Array Value) (d : Int) (L : List Value) (lo w : Int) (K2 : Int → Int → Prop) : Prop :=
  dr xs d (bif nextR xs d 12 == 0 then dr xs (d + 1) (rg (nextR xs (d + 1) 6) 6 6 (K2 (gI L (nextR xs (d + 1) 6)) (d + 1 + 1))) else dr xs (d + 1) (K2 (IntKind.i64.wrap (lo + nextR xs (d + 1) w)) (d + 1 + 1)))
noncomputable def alT (xs : Array Value) (d : Int) (cs : List Value) (j : Int) (K : Array Value → Int → Prop) : Prop :=
  bif (0 + j.toNat * 7).blt (Array.mk cs).size then
    (Array.mk cs).toList.getD (0 + j.toNat * 7) (Value.tuple { toList := [] }) = .int .i64 (toInt ((Array.mk cs).toList.getD (0 + j.toNat * 7) (Value.tuple { toList := [] }))) ∧
    dr xs d (rg (nextR xs d 4) 4 4 (dr xs (d + 1) (rg (nextR xs (d + 1) 3) 3 3 (odT xs (d + 1 + 1) osL 100 500 fun st e => odT xs e ofL 0 5 fun fd e2 =>
      bif (0 + j.toNat * 7 + 1).ble (Array.mk cs).size && true && true then
      bif (0 + j.toNat * 7 + 1 + 1).ble (putAll ⟨cs⟩ (0 + j.toNat * 7) [.int .i64 (gI (atL (toInt ((Array.mk cs).toList.getD (0 + j.toNat * 7) (Value.tuple { toList := [] })))) (nextR xs d 4))]).size && true && true then
      bif (0 + j.toNat * 7 + 5 + 1).ble (putAll (putAll ⟨cs⟩ (0 + j.toNat * 7) [.int .i64 (gI (atL (toInt ((Array.mk cs).toList.getD (0 + j.toNat * 7) (Value.tuple { toList := [] })))) (nextR xs d 4))]) (0 + j.toNat * 7 + 1) [.string (gS smL (nextR xs (d + 1) 3))]).size && true && true then
      bif (0 + j.toNat * 7 + 6 + 1).ble (putAll (putAll (putAll ⟨cs⟩ (0 + j.toNat * 7) [.int .i64 (gI (atL (toInt ((Array.mk cs).toList.getD (0 + j.toNat * 7) (Value.tuple { toList := [] })))) (nextR xs d 4))]) (0 + j.toNat * 7 + 1) [.string (gS smL (nextR xs (d + 1) 3))]) (0 + j.toNat * 7 + 5) [.int .i64 st]).size && true && true then
        K (putAll (putAll (putAll (putAll ⟨cs⟩ (0 + j.toNat * 7) [.int .i64 (gI (atL (toInt ((Array.mk cs).toList.getD (0 + j.toNat * 7) (Value.tuple { toList := [] })))) (nextR xs d 4))]) (0 + j.toNat * 7 + 1) [.string (gS smL (nextR xs (d + 1) 3))]) (0 + j.toNat * 7 + 5) [.int .i64 st]) (0 + j.toNat * 7 + 6) [.int .i64 fd]) e2
      else False else False else False else False)))) else False
noncomputable def tlT (xs : Array Value) (d : Int) (k : Nat) (cs : List Value) (K : Array Value → Int → Prop) : Prop :=
  bif decide ((k : Int) > 0) then dr xs d (bif nextR xs d 15 == 0 then
    bif decide (0 ≤ d + 1) && decide (d + 1 ≤ 1000000) && decide (1 ≤ (k : Int)) && decide ((k : Int) ≤ 1000000000) && true && allInts xs then
      bif decide (0 ≤ nextR xs (d + 1) (k : Int)) && decide (nextR xs (d + 1) (k : Int) < (k : Int)) then alT xs (d + 1 + 1) cs (nextR xs (d + 1) (k : Int)) K else False else False
    else K ⟨cs⟩ (d + 1)) else K ⟨cs⟩ d
set_option maxRecDepth 20000 in
theorem grfB (xs : Array Value) (d n : Int) (cs : List Value) (k : Nat) (C : List Value → AH → Prop) (Q : Value → Option Obj → Option Obj → Prop) :
    tfn Tryz.prog SG1 [] (hook1 4 (thenLS (hookLS 1 82 [0, 5, 6, 10, 11] [1] [0, 5] (fun vals h K => C vals h ∧ K (.exit 0) [.pointer (some ⟨0, 0, none⟩), .slice (some ⟨1, 0, none⟩) k k] (gB xs d cs))) (markG 5))) 600 [] Tryz.f4 [.pointer (some ⟨0, 0, none⟩), .int .i64 n] (Ev.h1 (strm xs 1)) (fun v h => Q v (h.get 0) (h.get (blkOf v))) =
      dr xs 1 (C (gv nilV (nextR xs 1 20) n 0) (gN xs (1 + 1)) ∧ tlT xs d k cs fun c e => Q (.slice (some ⟨1, 0, none⟩) k k) (some (strm xs e)) (some (.cells c 36 (1, 1)))) := by kernel_rfl
end Go.Proofs.YtfhhhfgbedddhaaGreatDoor
