/-
  Requests and responses: right ones, as they are drawn.
-/
import Derived.Test.YtjphemllikflpaaGreatDoorByF
namespace Go.Proofs.YtjphemllikflpaaGreatDoor
open Go.Ev Go.RowKit RecLaw PathLaw QueryLaw

def gS (l : List Value) (r : Int) : ByteArray := toStr (l.getD (0 + r.toNat * 1) (Value.tuple { toList := [] }))
noncomputable def dr (xs : Array Value) (d : Int) (X : Prop) : Prop := bif decide (0 ≤ d) && decide (d ≤ 1000000) && true && true && true && allInts xs then X else False
noncomputable def rg (r m : Int) (k : Nat) (X : Prop) : Prop := bif decide (0 ≤ r) && decide (r < m) then bif (0 + r.toNat * 1).blt k then X else False else False
theorem dr_mk {zs : List Int} {d : Int} (h0 : 0 ≤ d) (h1 : d ≤ 1000000) {X : Prop} (hX : X) : dr (intsV zs) d X := need_mk (by rw [allInts_intsV]; simp [h0, h1]) hX
theorem rg_mk {zs : List Int} {d m : Int} {k : Nat} (h0 : 0 ≤ d) (h1 : d ≤ 1000000) (hm : m = (k : Int)) (hk : 1 ≤ m ∧ m ≤ 100) {X : Prop} (hX : X) : rg (nextR (intsV zs) d m) m k X := by
  have hb := (nextR_spec zs m d h0 h1 hk.1 (by omega)).1
  refine need_mk (by simp [hb.1, hb.2]) (need_mk ?_ hX)
  rw [Nat.blt, Nat.ble_eq]; omega
theorem app_len (a b : ByteArray) : (a ++ b).size = a.size + b.size := ByteArray.size_append

/-- The stream's next number; where the bound is n0, it is told. -/
noncomputable def spNk (n0 k : Int) (f : FuncId) (args : Array Value) (h : AH) : Option (Bool × Value × AH) :=
  cond (Nat.beq f 24) (match args with
    | ⟨[.pointer (some ⟨b, 0, none⟩), .int .i64 n]⟩ => match h.get b with
      | some (.cells ⟨[.func (.yield 0) xs ⟨[]⟩, .int .i64 at_]⟩ t (0, 0)) => cond (decide (n = n0))
        (some (Nat.beq t 25 && decide (0 ≤ at_) && decide (at_ ≤ 1000000) && decide (1 ≤ n) && decide (n ≤ 1000000000000) && decide (nextR xs at_ n = k) && allInts xs, .int .i64 k, h.set b (.cells ⟨[fz xs, .int .i64 (at_ + 1)]⟩ 25 (0, 0))))
        (cond (decide (n = 1)) (some (Nat.beq t 25 && decide (0 ≤ at_) && decide (at_ ≤ 1000000) && decide (1 ≤ n) && decide (n ≤ 1000000000000) && decide (nextR xs at_ n = 0) && allInts xs, .int .i64 0, h.set b (.cells ⟨[fz xs, .int .i64 (at_ + 1)]⟩ 25 (0, 0))))
          (some (Nat.beq t 25 && decide (0 ≤ at_) && decide (at_ ≤ 1000000) && decide (1 ≤ n) && decide (n ≤ 1000000000000) && true && allInts xs, .int .i64 (nextR xs at_ n), h.set b (.cells ⟨[fz xs, .int .i64 (at_ + 1)]⟩ 25 (0, 0)))))
      | _ => none
    | _ => none) none
theorem spNk_ok (n0 k : Int) : SpOK (spNk n0 k) := by
  intro f args h v h' hs
  unfold spNk at hs
  obtain ⟨hf, hs2⟩ := cond_some hs
  clear hs
  have hs := hs2
  clear hs2
  have := Nat.eq_of_beq_eq_true hf
  subst this
  split at hs
  · rename_i b n
    split at hs
    · rename_i xs at_ t hg
      have key : ∀ (r : Int) (c : Bool), (c = true → r = nextR xs at_ n) → some (Nat.beq t 25 && decide (0 ≤ at_) && decide (at_ ≤ 1000000) && decide (1 ≤ n) && decide (n ≤ 1000000000000) && c && allInts xs, Value.int .i64 r, h.set b (.cells ⟨[fz xs, .int .i64 (at_ + 1)]⟩ 25 (0, 0))) = some (true, v, h') → CallOK Tryz.prog 24 ⟨[.pointer (some ⟨b, 0, none⟩), .int .i64 n]⟩ h v h' ∧ h.next ≤ h'.next := by
        intro r c hr hs
        injection hs with hs
        injection hs with hb hs
        injection hs with hv hh
        subst hv hh
        simp only [Bool.and_eq_true, decide_eq_true_eq] at hb
        obtain ⟨⟨⟨⟨⟨⟨b0, b1⟩, b2⟩, b3⟩, b4⟩, b5⟩, b6⟩ := hb
        have b0 := Nat.eq_of_beq_eq_true b0
        subst b0
        obtain ⟨zs, rfl⟩ := intsV_of_all b6
        rw [hr b5]
        have hF := (nextR_spec zs n at_ b1 b2 b3 (by omega)).2
        refine ⟨?_, Nat.le_refl _⟩
        exact FnOK.ref (cs := ⟨[fz (intsV zs), .int .i64 at_]⟩) (cs' := ⟨[fz (intsV zs), .int .i64 (at_ + 1)]⟩) (args := [.int .i64 n]) hF rfl (by simp [p1, fz]) (by simp [p1, fz]) rfl hg
      cases hn : decide (n = n0) with
      | true =>
        rw [hn] at hs
        exact key k (decide (nextR xs at_ n = k)) (fun q => (of_decide_eq_true q).symm) hs
      | false =>
        rw [hn, cond_false] at hs
        cases hm : decide (n = 1) with
        | true =>
          rw [hm] at hs
          exact key 0 (decide (nextR xs at_ n = 0)) (fun q => (of_decide_eq_true q).symm) hs
        | false =>
          rw [hm] at hs
          exact key (nextR xs at_ n) true (fun _ => rfl) hs
    · cases hs
  · cases hs
noncomputable def drK (xs : Array Value) (d n k : Int) (X : Prop) : Prop := bif decide (0 ≤ d) && decide (d ≤ 1000000) && true && true && decide (nextR xs d n = k) && allInts xs then X else False
theorem drK_mk {zs : List Int} {d n k : Int} (h0 : 0 ≤ d) (h1 : d ≤ 1000000) (hk : nextR (intsV zs) d n = k) {X : Prop} (hX : X) : drK (intsV zs) d n k X := need_mk (by rw [allInts_intsV, hk]; simp [h0, h1]) hX
noncomputable def spRg (f : FuncId) (args : Array Value) (h : AH) : Option (Bool × Value × AH) :=
  cond (Nat.beq f 4) (match args with
    | ⟨[.string s, .int .i64 n]⟩ => some (decide (0 ≤ n) && decide (n ≤ 100000) && Nat.ble (s.size * n.toNat) 100000, .string (bl (Lib.repeatL s.data.toList n.toNat)), h)
    | _ => none) none
theorem spRg_ok : SpOK spRg := by
  intro f args h v h' hs
  unfold spRg at hs
  obtain ⟨hf, hs2⟩ := cond_some hs
  clear hs
  have := Nat.eq_of_beq_eq_true hf
  subst this
  split at hs2
  · injection hs2 with hs
    injection hs with hb hs
    injection hs with hv hh
    subst hv hh
    rename_i s n
    simp only [Bool.and_eq_true, decide_eq_true_eq] at hb
    obtain ⟨⟨b1, b2⟩, b3⟩ := hb
    have b3 := Nat.le_of_ble_eq_true b3
    have e : n = ((n.toNat : Nat) : Int) := (Int.toNat_of_nonneg b1).symm
    refine ⟨?_, Nat.le_refl _⟩
    have hF : CallOK Tryz.prog 4 ⟨[.string s, .int .i64 ((n.toNat : Nat) : Int)]⟩ h (.string (bl (Lib.repeatL s.data.toList n.toNat))) h := flat_call (args := [.string s, .int .i64 ((n.toNat : Nat) : Int)]) rfl rfl fun w => Tryz.strings_Repeat s n.toNat w (by omega) (by omega)
    rw [← e] at hF
    exact hF
  · cases hs2
theorem rep_len (l : List UInt8) : ∀ n : Nat, (Lib.repeatL l n).length = l.length * n
  | 0 => rfl
  | n + 1 => by
    rw [Lib.repeatL, List.length_append, rep_len l n, Nat.mul_succ]; omega
theorem gS_in {L : List Value} {m : Nat} {P : ByteArray → Prop} (hm : L.length = m) (hL : ∀ v ∈ L, P (toStr v)) {r : Int} (h0 : 0 ≤ r) (h1 : r < (m : Int)) : P (gS L r) := by
  unfold gS
  have hr : 0 + r.toNat * 1 < L.length := by omega
  rw [List.getD_eq_getElem?_getD, List.getElem?_eq_getElem hr]
  exact hL _ (List.getElem_mem hr)
def shortB (s : ByteArray) : Prop := s.size ≤ 10000
def hostS (s : ByteArray) : Prop := s.data.toList ∈ hosts
def qryS (s : ByteArray) : Prop := s.size ≤ 10000 ∧ (pqE s.data.toList = 0 → (pqL s.data.toList).length ≤ 4)
abbrev PB : Type := ByteArray × ByteArray
def rV (a : Int) (m ho p q f b : ByteArray) (hv : Value) : Value := .agg ⟨[.int .i64 a, .string m, .string ho, .string p, .string q, .string f, hv, .string b]⟩
def nmS : List Bs := [[97, 99, 99, 101, 112, 116], [65, 99, 99, 101, 112, 116], [120, 45, 111, 110, 101], [88, 45, 84, 119, 111], [99, 111, 111, 107, 105, 101], [118, 97, 114, 121], [99, 111, 110, 110, 101, 99, 116, 105, 111, 110], [120, 45, 102, 111, 114, 119, 97, 114, 100, 101, 100, 45, 102, 111, 114], [118, 105, 97], [120, 45, 102, 111, 114, 119, 97, 114, 100, 101, 100, 45, 104, 111, 115, 116], [116, 101]]
def nmQ (s : ByteArray) : Prop := s.data.toList ∈ nmS
def vaS : List Bs := [[49], [120], [97, 44, 32, 98], [], [120, 45, 111, 110, 101, 44, 32, 99, 108, 111, 115, 101], [103, 119], [49, 46, 50, 46, 51, 46, 52], [53, 46, 54, 46, 55, 46, 56, 44, 32, 57, 46, 57, 46, 57, 46, 57]]
def vaQ (s : ByteArray) : Prop := s.data.toList ∈ vaS
def pvV (p : PB) : Value := .agg ⟨[.string p.1, .string p.2]⟩
def unB (p : PB) : Bs × Bs := (p.1.data.toList, p.2.data.toList)
theorem pv_un (p : PB) : prV (unB p) = pvV p := by
  show Value.agg ⟨[.string (bl p.1.data.toList), .string (bl p.2.data.toList)]⟩ = _
  rw [bl_self, bl_self]
  rfl
theorem pv_map (L : List PB) : (L.map unB).map prV = L.map pvV := by
  rw [List.map_map]
  exact List.map_congr_left fun p _ => pv_un p
def nmL : List Value := [.string ⟨#[97, 99, 99, 101, 112, 116]⟩, .string ⟨#[65, 99, 99, 101, 112, 116]⟩, .string ⟨#[120, 45, 111, 110, 101]⟩, .string ⟨#[88, 45, 84, 119, 111]⟩, .string ⟨#[99, 111, 111, 107, 105, 101]⟩, .string ⟨#[118, 97, 114, 121]⟩, .string ⟨#[99, 111, 110, 110, 101, 99, 116, 105, 111, 110]⟩, .string ⟨#[120, 45, 102, 111, 114, 119, 97, 114, 100, 101, 100, 45, 102, 111, 114]⟩, .string ⟨#[118, 105, 97]⟩, .string ⟨#[120, 45, 102, 111, 114, 119, 97, 114, 100, 101, 100, 45, 104, 111, 115, 116]⟩, .string ⟨#[116, 101]⟩]
def vaL : List Value := [.string ⟨#[49]⟩, .string ⟨#[120]⟩, .string ⟨#[97, 44, 32, 98]⟩, .string ⟨#[]⟩, .string ⟨#[120, 45, 111, 110, 101, 44, 32, 99, 108, 111, 115, 101]⟩, .string ⟨#[103, 119]⟩, .string ⟨#[49, 46, 50, 46, 51, 46, 52]⟩, .string ⟨#[53, 46, 54, 46, 55, 46, 56, 44, 32, 57, 46, 57, 46, 57, 46, 57]⟩]
theorem nm_all : ∀ v ∈ nmL, nmQ (toStr v) := by
  intro v hv
  simp only [nmL, List.mem_cons, List.not_mem_nil, or_false] at hv
  rcases hv with rfl | rfl | rfl | rfl | rfl | rfl | rfl | rfl | rfl | rfl | rfl
  · show _ ∈ nmS; decide
  · show _ ∈ nmS; decide
  · show _ ∈ nmS; decide
  · show _ ∈ nmS; decide
  · show _ ∈ nmS; decide
  · show _ ∈ nmS; decide
  · show _ ∈ nmS; decide
  · show _ ∈ nmS; decide
  · show _ ∈ nmS; decide
  · show _ ∈ nmS; decide
  · show _ ∈ nmS; decide
theorem va_all : ∀ v ∈ vaL, vaQ (toStr v) := by
  intro v hv
  simp only [vaL, List.mem_cons, List.not_mem_nil, or_false] at hv
  rcases hv with rfl | rfl | rfl | rfl | rfl | rfl | rfl | rfl
  · show _ ∈ vaS; decide
  · show _ ∈ vaS; decide
  · show _ ∈ vaS; decide
  · show _ ∈ vaS; decide
  · show _ ∈ vaS; decide
  · show _ ∈ vaS; decide
  · show _ ∈ vaS; decide
  · show _ ∈ vaS; decide

noncomputable def rhT (xs : Array Value) (Q : List PB → Int → Prop) : Nat → Int → List PB → Prop
  | 0, e, L => Q L e
  | n + 1, e, L => dr xs e (rg (nextR xs e 11) 11 11 (dr xs (e + 1) (rg (nextR xs (e + 1) 8) 8 8 (rhT xs Q n (e + 1 + 1) (L ++ [(gS nmL (nextR xs e 11), gS vaL (nextR xs (e + 1) 8))])))))
noncomputable def SRh (k : Int) : SC := ⟨idn, spNk 5 k, true, true⟩
theorem SRh_ok (k : Int) : (SRh k).cfg.OK Tryz.prog := (spNk_ok 5 k).cfg
noncomputable def fzQ (xs : Array Value) (Q : Value → Option Obj → Prop) (L : List PB) (e : Int) : Prop := Q (fz ⟨L.map pvV⟩) (some (strm xs e))
theorem rhe0 (xs : Array Value) (d : Int) (Q : Value → Option Obj → Prop) : ffn Tryz.prog (SRh 0) [] 3000 [] Tryz.f31 [.pointer (some ⟨0, 0, none⟩), .int .i64 4] (Ev.h1 (strm xs d)) (fun v h => Q v (h.get 0)) =
    drK xs d 5 0 (Q (.slice none 0 0) (some (strm xs (d + 1)))) := by kernel_rfl
theorem rhe1 (xs : Array Value) (d : Int) (Q : Value → Option Obj → Prop) : tfn Tryz.prog (SRh 1) [] (ghost1 6 (freezeG 23 true 2 [4])) 3000 [] Tryz.f31 [.pointer (some ⟨0, 0, none⟩), .int .i64 4] (Ev.h1 (strm xs d)) (fun v h => Q v (h.get 0)) =
    drK xs d 5 1 (rhT xs (fzQ xs Q) 1 (d + 1) []) := by kernel_rfl
theorem rhe2 (xs : Array Value) (d : Int) (Q : Value → Option Obj → Prop) : tfn Tryz.prog (SRh 2) [] (ghost1 6 (freezeG 23 true 2 [4])) 3000 [] Tryz.f31 [.pointer (some ⟨0, 0, none⟩), .int .i64 4] (Ev.h1 (strm xs d)) (fun v h => Q v (h.get 0)) =
    drK xs d 5 2 (rhT xs (fzQ xs Q) 2 (d + 1) []) := by kernel_rfl
theorem rhe3 (xs : Array Value) (d : Int) (Q : Value → Option Obj → Prop) : tfn Tryz.prog (SRh 3) [] (ghost1 6 (freezeG 23 true 2 [4])) 3000 [] Tryz.f31 [.pointer (some ⟨0, 0, none⟩), .int .i64 4] (Ev.h1 (strm xs d)) (fun v h => Q v (h.get 0)) =
    drK xs d 5 3 (rhT xs (fzQ xs Q) 3 (d + 1) []) := by kernel_rfl
theorem rhe4 (xs : Array Value) (d : Int) (Q : Value → Option Obj → Prop) : tfn Tryz.prog (SRh 4) [] (ghost1 6 (freezeG 23 true 2 [4])) 3000 [] Tryz.f31 [.pointer (some ⟨0, 0, none⟩), .int .i64 4] (Ev.h1 (strm xs d)) (fun v h => Q v (h.get 0)) =
    drK xs d 5 4 (rhT xs (fzQ xs Q) 4 (d + 1) []) := by kernel_rfl
theorem someRH : Tryz.f31.body.isSome = true := by kernel_rfl
theorem gh6 : LoopsOK 1 Tryz.prog 23 (ghost1 6 (freezeG 23 true 2 [4])) (codeOf Tryz.f31) := ghosts_one (by kernel_rfl) (freezeG_ok _ _ _ _ _ _)
def shL (L : List PB) : Prop := ∀ p ∈ L, nmQ p.1 ∧ vaQ p.2
theorem shL_app {L : List PB} {p : PB} (h : shL L) (h1 : nmQ p.1) (h2 : vaQ p.2) : shL (L ++ [p]) := by
  intro x hx
  rcases List.mem_append.1 hx with q | q
  · exact h x q
  · rw [List.mem_singleton.1 q]; exact ⟨h1, h2⟩
theorem rhT_ex (zs : List Int) : ∀ (n : Nat) (e : Int) (L0 : List PB), shL L0 → 0 ≤ e → e + 2 * n ≤ 1000 → ∃ L : List PB, shL L ∧ L.length = L0.length + n ∧ ∀ Q : List PB → Int → Prop, Q L (e + 2 * n) → rhT (intsV zs) Q n e L0
  | 0, e, L0, h, _, _ => ⟨L0, h, rfl, fun Q hQ => by
    show Q L0 e
    simpa using hQ⟩
  | n + 1, e, L0, h, h0, h1 => by
    have b1 := (nextR_spec zs 11 e h0 (by omega) (by omega) (by omega)).1
    have b2 := (nextR_spec zs 8 (e + 1) (by omega) (by omega) (by omega) (by omega)).1
    obtain ⟨L, g1, g2, g3⟩ := rhT_ex zs n (e + 1 + 1) (L0 ++ [(gS nmL (nextR (intsV zs) e 11), gS vaL (nextR (intsV zs) (e + 1) 8))]) (shL_app h (gS_in (m := 11) rfl nm_all b1.1 b1.2) (gS_in (m := 8) rfl va_all b2.1 b2.2)) (by omega) (by omega)
    refine ⟨L, g1, by rw [g2, List.length_append, List.length_singleton]; omega, fun Q hQ => ?_⟩
    refine dr_mk h0 (by omega) (rg_mk h0 (by omega) rfl (by decide) (dr_mk (by omega) (by omega) (rg_mk (by omega) (by omega) rfl (by decide) (g3 Q ?_))))
    rw [show e + 1 + 1 + 2 * (n : Int) = e + 2 * ((n + 1 : Nat) : Int) by omega]
    exact hQ
/-- Headers as they are drawn. -/
def HLOk (L : List (Bs × Bs)) : Prop := L.length ≤ 4 ∧ ∀ p ∈ L, p.1 ∈ nmS ∧ p.2 ∈ vaS
theorem shL_HL {L : List PB} (h : shL L) (hn : L.length ≤ 4) : HLOk (L.map unB) := by
  refine ⟨by rw [List.length_map]; exact hn, ?_⟩
  intro p hp
  obtain ⟨x, hx, rfl⟩ := List.mem_map.1 hp
  exact h x hx
def GhOK (F : FuncId) (w : Int) (xs : Array Value) (d : Int) (r : List (Bs × Bs) × Int) : Prop := HLOk r.1 ∧ 0 ≤ r.2 ∧ r.2 ≤ d + w ∧
  FnOK 1 Tryz.prog F ⟨[.pointer (some ⟨0, 0, none⟩), .int .i64 4]⟩ (Ev.h1 (strm xs d)) (fun u g => u = hdV r.1 ∧ g.get 0 = some (strm xs r.2))
open Classical in
noncomputable def ghC (F : FuncId) (w : Int) (xs : Array Value) (d : Int) : List (Bs × Bs) × Int := if h : ∃ r, GhOK F w xs d r then h.choose else ([], 0)
def GhEx (F : FuncId) (w m : Int) : Prop := ∀ (zs : List Int) (d : Int), 0 ≤ d → d ≤ m → ∃ r, GhOK F w (intsV zs) d r
theorem ghC_ok {F : FuncId} {w m : Int} (hx : GhEx F w m) (zs : List Int) {d : Int} (h0 : 0 ≤ d) (h1 : d ≤ m) : GhOK F w (intsV zs) d (ghC F w (intsV zs) d) := by
  have h := hx zs d h0 h1
  unfold ghC
  rw [dif_pos h]
  exact h.choose_spec
/-- Headers: nil, or frozen. -/
noncomputable def hdT (e : Bool) (L : List (Bs × Bs)) : Value := match e with
  | true => .slice none 0 0
  | false => fz ⟨L.map prV⟩
theorem hdT_eq (L : List (Bs × Bs)) : hdT L.isEmpty L = hdV L := by cases L <;> rfl
noncomputable def spGH (F : FuncId) (w m : Int) (e : Bool) (f : FuncId) (args : Array Value) (h : AH) : Option (Bool × Value × AH) :=
  cond (Nat.beq f F) (match args with
    | ⟨[.pointer (some ⟨b, 0, none⟩), .int .i64 n]⟩ => match h.get b with
      | some (.cells ⟨[.func (.yield 0) xs ⟨[]⟩, .int .i64 at_]⟩ t (0, 0)) =>
        some (decide (n = 4) && Nat.beq t 25 && decide (0 ≤ at_) && decide (at_ ≤ m) && allInts xs && (cond e (ghC F w xs at_).1.isEmpty (!(ghC F w xs at_).1.isEmpty)), hdT e (ghC F w xs at_).1, h.set b (.cells ⟨[fz xs, .int .i64 (ghC F w xs at_).2]⟩ 25 (0, 0)))
      | _ => none
    | _ => none) none
theorem spGH_ok {F : FuncId} {w m : Int} (hx : GhEx F w m) (e : Bool) : SpOK (spGH F w m e) := by
  intro f args h v h' hs
  unfold spGH at hs
  obtain ⟨hf, hs2⟩ := cond_some hs
  clear hs
  have := Nat.eq_of_beq_eq_true hf
  subst this
  split at hs2
  · rename_i b n
    split at hs2
    · rename_i xs at_ t hg
      injection hs2 with hs
      injection hs with hb hs
      injection hs with hv hh
      subst hv hh
      simp only [Bool.and_eq_true, decide_eq_true_eq] at hb
      obtain ⟨⟨⟨⟨⟨rfl, b1⟩, b2⟩, b3⟩, b4⟩, b5⟩ := hb
      have b1 := Nat.eq_of_beq_eq_true b1
      subst b1
      obtain ⟨zs, rfl⟩ := intsV_of_all b4
      obtain ⟨_, _, _, hF⟩ := ghC_ok hx zs b2 b3
      have he : hdT e (ghC f w (intsV zs) at_).1 = hdV (ghC f w (intsV zs) at_).1 := by
        rw [← hdT_eq]
        cases e with
        | true => rw [show (ghC f w (intsV zs) at_).1.isEmpty = true from b5]
        | false =>
          have b5 : (!(ghC f w (intsV zs) at_).1.isEmpty) = true := b5
          rw [Bool.not_eq_true'] at b5
          rw [b5]
      rw [he]
      have hp : p2 (hdV (ghC f w (intsV zs) at_).1) = true := p2_hd _
      exact ⟨FnOK.ref (cs := ⟨[fz (intsV zs), .int .i64 at_]⟩) (cs' := ⟨[fz (intsV zs), .int .i64 (ghC _ w (intsV zs) at_).2]⟩) (args := [.int .i64 4]) hF rfl (by simp [p1, fz]) (by simp [p1, fz]) (by generalize (ghC f w (intsV zs) at_).1 = L; cases L <;> rfl) hg, Nat.le_refl _⟩
    · cases hs2
  · cases hs2
theorem rh_ex : GhEx 31 9 500 := by
  intro zs d h0 h1
  have hb := (nextR_spec zs 5 d h0 (by omega) (by omega) (by omega)).1
  have hk : nextR (intsV zs) d 5 = 0 ∨ nextR (intsV zs) d 5 = 1 ∨ nextR (intsV zs) d 5 = 2 ∨ nextR (intsV zs) d 5 = 3 ∨ nextR (intsV zs) d 5 = 4 := by omega
  rcases hk with h | h | h | h | h
  · exact ⟨([], d + 1), ⟨by simp, fun p hp => by cases hp⟩, by show 0 ≤ d + 1; omega, by show d + 1 ≤ d + 9; omega, FnOK.ftree (SRh_ok 0) mixed Tryz.func31 someRH (rhe0 (intsV zs) d (fun u o => u = hdV [] ∧ o = some (strm (intsV zs) (d + 1)))) (drK_mk h0 (by omega) h ⟨rfl, rfl⟩)⟩
  · obtain ⟨L, g1, g2, g3⟩ := rhT_ex zs 1 (d + 1) [] (fun p hp => by cases hp) (by omega) (by omega)
    have g2 : L.length = 1 := by rw [g2]; rfl
    refine ⟨(L.map unB, d + 1 + 2 * ((1 : Nat) : Int)), shL_HL g1 (by omega), by show 0 ≤ d + 1 + 2 * ((1 : Nat) : Int); omega, by show d + 1 + 2 * ((1 : Nat) : Int) ≤ d + 9; omega, FnOK.ttree (SRh_ok 1) mixed Tryz.func31 someRH gh6 (rhe1 (intsV zs) d (fun u o => u = hdV (L.map unB) ∧ o = some (strm (intsV zs) (d + 1 + 2 * ((1 : Nat) : Int))))) (drK_mk h0 (by omega) h (g3 _ ⟨?_, rfl⟩))⟩
    match L, g2 with
    | p :: l, _ => exact congrArg (fun x => fz ⟨x⟩) (pv_map (p :: l)).symm
  · obtain ⟨L, g1, g2, g3⟩ := rhT_ex zs 2 (d + 1) [] (fun p hp => by cases hp) (by omega) (by omega)
    have g2 : L.length = 2 := by rw [g2]; rfl
    refine ⟨(L.map unB, d + 1 + 2 * ((2 : Nat) : Int)), shL_HL g1 (by omega), by show 0 ≤ d + 1 + 2 * ((2 : Nat) : Int); omega, by show d + 1 + 2 * ((2 : Nat) : Int) ≤ d + 9; omega, FnOK.ttree (SRh_ok 2) mixed Tryz.func31 someRH gh6 (rhe2 (intsV zs) d (fun u o => u = hdV (L.map unB) ∧ o = some (strm (intsV zs) (d + 1 + 2 * ((2 : Nat) : Int))))) (drK_mk h0 (by omega) h (g3 _ ⟨?_, rfl⟩))⟩
    match L, g2 with
    | p :: l, _ => exact congrArg (fun x => fz ⟨x⟩) (pv_map (p :: l)).symm
  · obtain ⟨L, g1, g2, g3⟩ := rhT_ex zs 3 (d + 1) [] (fun p hp => by cases hp) (by omega) (by omega)
    have g2 : L.length = 3 := by rw [g2]; rfl
    refine ⟨(L.map unB, d + 1 + 2 * ((3 : Nat) : Int)), shL_HL g1 (by omega), by show 0 ≤ d + 1 + 2 * ((3 : Nat) : Int); omega, by show d + 1 + 2 * ((3 : Nat) : Int) ≤ d + 9; omega, FnOK.ttree (SRh_ok 3) mixed Tryz.func31 someRH gh6 (rhe3 (intsV zs) d (fun u o => u = hdV (L.map unB) ∧ o = some (strm (intsV zs) (d + 1 + 2 * ((3 : Nat) : Int))))) (drK_mk h0 (by omega) h (g3 _ ⟨?_, rfl⟩))⟩
    match L, g2 with
    | p :: l, _ => exact congrArg (fun x => fz ⟨x⟩) (pv_map (p :: l)).symm
  · obtain ⟨L, g1, g2, g3⟩ := rhT_ex zs 4 (d + 1) [] (fun p hp => by cases hp) (by omega) (by omega)
    have g2 : L.length = 4 := by rw [g2]; rfl
    refine ⟨(L.map unB, d + 1 + 2 * ((4 : Nat) : Int)), shL_HL g1 (by omega), by show 0 ≤ d + 1 + 2 * ((4 : Nat) : Int); omega, by show d + 1 + 2 * ((4 : Nat) : Int) ≤ d + 9; omega, FnOK.ttree (SRh_ok 4) mixed Tryz.func31 someRH gh6 (rhe4 (intsV zs) d (fun u o => u = hdV (L.map unB) ∧ o = some (strm (intsV zs) (d + 1 + 2 * ((4 : Nat) : Int))))) (drK_mk h0 (by omega) h (g3 _ ⟨?_, rfl⟩))⟩
    match L, g2 with
    | p :: l, _ => exact congrArg (fun x => fz ⟨x⟩) (pv_map (p :: l)).symm

namespace R3
noncomputable def SRh (k : Int) : SC := ⟨idn, spNk 4 k, true, true⟩
theorem SRh_ok (k : Int) : (SRh k).cfg.OK Tryz.prog := (spNk_ok 4 k).cfg
noncomputable def fzQ (xs : Array Value) (Q : Value → Option Obj → Prop) (L : List PB) (e : Int) : Prop := Q (fz ⟨L.map pvV⟩) (some (strm xs e))
theorem rhe0 (xs : Array Value) (d : Int) (Q : Value → Option Obj → Prop) : ffn Tryz.prog (SRh 0) [] 3000 [] Tryz.f31 [.pointer (some ⟨0, 0, none⟩), .int .i64 3] (Ev.h1 (strm xs d)) (fun v h => Q v (h.get 0)) =
    drK xs d 4 0 (Q (.slice none 0 0) (some (strm xs (d + 1)))) := by kernel_rfl
theorem rhe1 (xs : Array Value) (d : Int) (Q : Value → Option Obj → Prop) : tfn Tryz.prog (SRh 1) [] (ghost1 6 (freezeG 23 true 2 [4])) 3000 [] Tryz.f31 [.pointer (some ⟨0, 0, none⟩), .int .i64 3] (Ev.h1 (strm xs d)) (fun v h => Q v (h.get 0)) =
    drK xs d 4 1 (rhT xs (fzQ xs Q) 1 (d + 1) []) := by kernel_rfl
theorem rhe2 (xs : Array Value) (d : Int) (Q : Value → Option Obj → Prop) : tfn Tryz.prog (SRh 2) [] (ghost1 6 (freezeG 23 true 2 [4])) 3000 [] Tryz.f31 [.pointer (some ⟨0, 0, none⟩), .int .i64 3] (Ev.h1 (strm xs d)) (fun v h => Q v (h.get 0)) =
    drK xs d 4 2 (rhT xs (fzQ xs Q) 2 (d + 1) []) := by kernel_rfl
theorem rhe3 (xs : Array Value) (d : Int) (Q : Value → Option Obj → Prop) : tfn Tryz.prog (SRh 3) [] (ghost1 6 (freezeG 23 true 2 [4])) 3000 [] Tryz.f31 [.pointer (some ⟨0, 0, none⟩), .int .i64 3] (Ev.h1 (strm xs d)) (fun v h => Q v (h.get 0)) =
    drK xs d 4 3 (rhT xs (fzQ xs Q) 3 (d + 1) []) := by kernel_rfl
theorem someRH : Tryz.f31.body.isSome = true := by kernel_rfl
theorem gh6 : LoopsOK 1 Tryz.prog 23 (ghost1 6 (freezeG 23 true 2 [4])) (codeOf Tryz.f31) := ghosts_one (by kernel_rfl) (freezeG_ok _ _ _ _ _ _)
def shL (L : List PB) : Prop := ∀ p ∈ L, nmQ p.1 ∧ vaQ p.2
theorem shL_app {L : List PB} {p : PB} (h : shL L) (h1 : nmQ p.1) (h2 : vaQ p.2) : shL (L ++ [p]) := by
  intro x hx
  rcases List.mem_append.1 hx with q | q
  · exact h x q
  · rw [List.mem_singleton.1 q]; exact ⟨h1, h2⟩
theorem rhT_ex (zs : List Int) : ∀ (n : Nat) (e : Int) (L0 : List PB), shL L0 → 0 ≤ e → e + 2 * n ≤ 1000 → ∃ L : List PB, shL L ∧ L.length = L0.length + n ∧ ∀ Q : List PB → Int → Prop, Q L (e + 2 * n) → rhT (intsV zs) Q n e L0
  | 0, e, L0, h, _, _ => ⟨L0, h, rfl, fun Q hQ => by
    show Q L0 e
    simpa using hQ⟩
  | n + 1, e, L0, h, h0, h1 => by
    have b1 := (nextR_spec zs 11 e h0 (by omega) (by omega) (by omega)).1
    have b2 := (nextR_spec zs 8 (e + 1) (by omega) (by omega) (by omega) (by omega)).1
    obtain ⟨L, g1, g2, g3⟩ := rhT_ex zs n (e + 1 + 1) (L0 ++ [(gS nmL (nextR (intsV zs) e 11), gS vaL (nextR (intsV zs) (e + 1) 8))]) (shL_app h (gS_in (m := 11) rfl nm_all b1.1 b1.2) (gS_in (m := 8) rfl va_all b2.1 b2.2)) (by omega) (by omega)
    refine ⟨L, g1, by rw [g2, List.length_append, List.length_singleton]; omega, fun Q hQ => ?_⟩
    refine dr_mk h0 (by omega) (rg_mk h0 (by omega) rfl (by decide) (dr_mk (by omega) (by omega) (rg_mk (by omega) (by omega) rfl (by decide) (g3 Q ?_))))
    rw [show e + 1 + 1 + 2 * (n : Int) = e + 2 * ((n + 1 : Nat) : Int) by omega]
    exact hQ
/-- Headers as they are drawn. -/
def HLOk (L : List (Bs × Bs)) : Prop := L.length ≤ 3 ∧ ∀ p ∈ L, p.1 ∈ nmS ∧ p.2 ∈ vaS
theorem shL_HL {L : List PB} (h : shL L) (hn : L.length ≤ 3) : HLOk (L.map unB) := by
  refine ⟨by rw [List.length_map]; exact hn, ?_⟩
  intro p hp
  obtain ⟨x, hx, rfl⟩ := List.mem_map.1 hp
  exact h x hx
def GhOK (F : FuncId) (w : Int) (xs : Array Value) (d : Int) (r : List (Bs × Bs) × Int) : Prop := HLOk r.1 ∧ 0 ≤ r.2 ∧ r.2 ≤ d + w ∧
  FnOK 1 Tryz.prog F ⟨[.pointer (some ⟨0, 0, none⟩), .int .i64 3]⟩ (Ev.h1 (strm xs d)) (fun u g => u = hdV r.1 ∧ g.get 0 = some (strm xs r.2))
open Classical in
noncomputable def ghC (F : FuncId) (w : Int) (xs : Array Value) (d : Int) : List (Bs × Bs) × Int := if h : ∃ r, GhOK F w xs d r then h.choose else ([], 0)
def GhEx (F : FuncId) (w m : Int) : Prop := ∀ (zs : List Int) (d : Int), 0 ≤ d → d ≤ m → ∃ r, GhOK F w (intsV zs) d r
theorem ghC_ok {F : FuncId} {w m : Int} (hx : GhEx F w m) (zs : List Int) {d : Int} (h0 : 0 ≤ d) (h1 : d ≤ m) : GhOK F w (intsV zs) d (ghC F w (intsV zs) d) := by
  have h := hx zs d h0 h1
  unfold ghC
  rw [dif_pos h]
  exact h.choose_spec
/-- Headers: nil, or frozen. -/
noncomputable def hdT (e : Bool) (L : List (Bs × Bs)) : Value := match e with
  | true => .slice none 0 0
  | false => fz ⟨L.map prV⟩
theorem hdT_eq (L : List (Bs × Bs)) : hdT L.isEmpty L = hdV L := by cases L <;> rfl
noncomputable def spGH (F : FuncId) (w m : Int) (e : Bool) (f : FuncId) (args : Array Value) (h : AH) : Option (Bool × Value × AH) :=
  cond (Nat.beq f F) (match args with
    | ⟨[.pointer (some ⟨b, 0, none⟩), .int .i64 n]⟩ => match h.get b with
      | some (.cells ⟨[.func (.yield 0) xs ⟨[]⟩, .int .i64 at_]⟩ t (0, 0)) =>
        some (decide (n = 3) && Nat.beq t 25 && decide (0 ≤ at_) && decide (at_ ≤ m) && allInts xs && (cond e (ghC F w xs at_).1.isEmpty (!(ghC F w xs at_).1.isEmpty)), hdT e (ghC F w xs at_).1, h.set b (.cells ⟨[fz xs, .int .i64 (ghC F w xs at_).2]⟩ 25 (0, 0)))
      | _ => none
    | _ => none) none
theorem spGH_ok {F : FuncId} {w m : Int} (hx : GhEx F w m) (e : Bool) : SpOK (spGH F w m e) := by
  intro f args h v h' hs
  unfold spGH at hs
  obtain ⟨hf, hs2⟩ := cond_some hs
  clear hs
  have := Nat.eq_of_beq_eq_true hf
  subst this
  split at hs2
  · rename_i b n
    split at hs2
    · rename_i xs at_ t hg
      injection hs2 with hs
      injection hs with hb hs
      injection hs with hv hh
      subst hv hh
      simp only [Bool.and_eq_true, decide_eq_true_eq] at hb
      obtain ⟨⟨⟨⟨⟨rfl, b1⟩, b2⟩, b3⟩, b4⟩, b5⟩ := hb
      have b1 := Nat.eq_of_beq_eq_true b1
      subst b1
      obtain ⟨zs, rfl⟩ := intsV_of_all b4
      obtain ⟨_, _, _, hF⟩ := ghC_ok hx zs b2 b3
      have he : hdT e (ghC f w (intsV zs) at_).1 = hdV (ghC f w (intsV zs) at_).1 := by
        rw [← hdT_eq]
        cases e with
        | true => rw [show (ghC f w (intsV zs) at_).1.isEmpty = true from b5]
        | false =>
          have b5 : (!(ghC f w (intsV zs) at_).1.isEmpty) = true := b5
          rw [Bool.not_eq_true'] at b5
          rw [b5]
      rw [he]
      have hp : p2 (hdV (ghC f w (intsV zs) at_).1) = true := p2_hd _
      exact ⟨FnOK.ref (cs := ⟨[fz (intsV zs), .int .i64 at_]⟩) (cs' := ⟨[fz (intsV zs), .int .i64 (ghC _ w (intsV zs) at_).2]⟩) (args := [.int .i64 3]) hF rfl (by simp [p1, fz]) (by simp [p1, fz]) (by generalize (ghC f w (intsV zs) at_).1 = L; cases L <;> rfl) hg, Nat.le_refl _⟩
    · cases hs2
  · cases hs2
theorem rh_ex : GhEx 31 9 500 := by
  intro zs d h0 h1
  have hb := (nextR_spec zs 4 d h0 (by omega) (by omega) (by omega)).1
  have hk : nextR (intsV zs) d 4 = 0 ∨ nextR (intsV zs) d 4 = 1 ∨ nextR (intsV zs) d 4 = 2 ∨ nextR (intsV zs) d 4 = 3 := by omega
  rcases hk with h | h | h | h
  · exact ⟨([], d + 1), ⟨by simp, fun p hp => by cases hp⟩, by show 0 ≤ d + 1; omega, by show d + 1 ≤ d + 9; omega, FnOK.ftree (SRh_ok 0) mixed Tryz.func31 someRH (rhe0 (intsV zs) d (fun u o => u = hdV [] ∧ o = some (strm (intsV zs) (d + 1)))) (drK_mk h0 (by omega) h ⟨rfl, rfl⟩)⟩
  · obtain ⟨L, g1, g2, g3⟩ := rhT_ex zs 1 (d + 1) [] (fun p hp => by cases hp) (by omega) (by omega)
    have g2 : L.length = 1 := by rw [g2]; rfl
    refine ⟨(L.map unB, d + 1 + 2 * ((1 : Nat) : Int)), shL_HL g1 (by omega), by show 0 ≤ d + 1 + 2 * ((1 : Nat) : Int); omega, by show d + 1 + 2 * ((1 : Nat) : Int) ≤ d + 9; omega, FnOK.ttree (SRh_ok 1) mixed Tryz.func31 someRH gh6 (rhe1 (intsV zs) d (fun u o => u = hdV (L.map unB) ∧ o = some (strm (intsV zs) (d + 1 + 2 * ((1 : Nat) : Int))))) (drK_mk h0 (by omega) h (g3 _ ⟨?_, rfl⟩))⟩
    match L, g2 with
    | p :: l, _ => exact congrArg (fun x => fz ⟨x⟩) (pv_map (p :: l)).symm
  · obtain ⟨L, g1, g2, g3⟩ := rhT_ex zs 2 (d + 1) [] (fun p hp => by cases hp) (by omega) (by omega)
    have g2 : L.length = 2 := by rw [g2]; rfl
    refine ⟨(L.map unB, d + 1 + 2 * ((2 : Nat) : Int)), shL_HL g1 (by omega), by show 0 ≤ d + 1 + 2 * ((2 : Nat) : Int); omega, by show d + 1 + 2 * ((2 : Nat) : Int) ≤ d + 9; omega, FnOK.ttree (SRh_ok 2) mixed Tryz.func31 someRH gh6 (rhe2 (intsV zs) d (fun u o => u = hdV (L.map unB) ∧ o = some (strm (intsV zs) (d + 1 + 2 * ((2 : Nat) : Int))))) (drK_mk h0 (by omega) h (g3 _ ⟨?_, rfl⟩))⟩
    match L, g2 with
    | p :: l, _ => exact congrArg (fun x => fz ⟨x⟩) (pv_map (p :: l)).symm
  · obtain ⟨L, g1, g2, g3⟩ := rhT_ex zs 3 (d + 1) [] (fun p hp => by cases hp) (by omega) (by omega)
    have g2 : L.length = 3 := by rw [g2]; rfl
    refine ⟨(L.map unB, d + 1 + 2 * ((3 : Nat) : Int)), shL_HL g1 (by omega), by show 0 ≤ d + 1 + 2 * ((3 : Nat) : Int); omega, by show d + 1 + 2 * ((3 : Nat) : Int) ≤ d + 9; omega, FnOK.ttree (SRh_ok 3) mixed Tryz.func31 someRH gh6 (rhe3 (intsV zs) d (fun u o => u = hdV (L.map unB) ∧ o = some (strm (intsV zs) (d + 1 + 2 * ((3 : Nat) : Int))))) (drK_mk h0 (by omega) h (g3 _ ⟨?_, rfl⟩))⟩
    match L, g2 with
    | p :: l, _ => exact congrArg (fun x => fz ⟨x⟩) (pv_map (p :: l)).symm
end R3
end Go.Proofs.YtjphemllikflpaaGreatDoor
