/-
  Tokens: claims as text, read.
-/
import Derived.Test.YtklednomnpghcaaGreatDoorRvB
import Derived.Test.YtklednomnpghcaaGreatDoorByZ
namespace Go.Proofs.YtklednomnpghcaaGreatDoor
open Go.Ev Go.RowKit RecLaw PathLaw QueryLaw B64Law

/-! told calls -/
open Classical in
noncomputable def tq (a b : List Value) : Bool := @decide (a = b) (Classical.propDecidable _)
open Classical in
theorem tq_eq {a b : List Value} (h : a = b) : tq a b = true := by unfold tq; exact @decide_eq_true _ (Classical.propDecidable _) h
open Classical in
theorem tq_iff {a b : List Value} (h : tq a b = true) : a = b := by unfold tq at h; exact @of_decide_eq_true _ (Classical.propDecidable _) h
noncomputable def spT (n : FuncId) (xs : List Value) (r : Value) (f : FuncId) (args : Array Value) (h : AH) : Option (Bool × Value × AH) :=
  cond (Nat.beq f n) (some (tq args.toList xs, r, h)) none
theorem spT_ok {n : FuncId} {xs : List Value} {r : Value} (hF : FnOK 0 Tryz.prog n ⟨xs⟩ h0 (fun v _ => v = r)) (ha : xs.all p2 = true) (hr : p3 r = true) : SpOK (spT n xs r) := by
  intro f args h v h' hs
  unfold spT at hs
  obtain ⟨hf, hs2⟩ := cond_some hs
  clear hs
  have := Nat.eq_of_beq_eq_true hf
  subst this
  injection hs2 with hs
  injection hs with hb hs
  injection hs with hv hh
  subst hv hh
  obtain ⟨l⟩ := args
  have e : l = xs := tq_iff hb
  subst e
  exact ⟨FnOK.pure hF ha hr h, Nat.le_refl _⟩
noncomputable def tqT (a : List Value) (X : Prop) : Prop := bif tq a a then X else False
theorem tqT_mk {a : List Value} {X : Prop} (hX : X) : tqT a X := need_mk (tq_eq rfl) hX
noncomputable def tqU (x y : List Value) (X : Prop) : Prop := bif tq x y then X else False
theorem tqU_mk {x y : List Value} (h : x = y) {X : Prop} (hX : X) : tqU x y X := need_mk (tq_eq h) hX
noncomputable def kq (a b : ByteArray) (X : Prop) : Prop := bif Nat.ble (a.size + b.size) 1000000 then X else False
theorem kq_mk {a b : Bs} (h : a.length + b.length ≤ 1000000) {X : Prop} (hX : X) : kq (bl a) (bl b) X := by
  unfold kq
  rw [bl_size, bl_size]
  exact need_mk (Nat.ble_eq_true_of_le h) hX

/-! Words -/
noncomputable def SKw (F : ByteArray) (ws : List Value) : SC := ⟨idn, spT 127 [.string F, .string ⟨#[32]⟩, .int .i64 0, .int .i64 (-1)] (fz ⟨ws⟩), false, false⟩
theorem someKW : Tryz.f232.body.isSome = true := by kernel_rfl
theorem ne_e {x : Bs} (h : x ≠ []) : ((ByteArray.mk #[]).toList == (bl x).toList) = false := by
  rw [show (ByteArray.mk #[]) = bl [] from rfl, bl_beq, bl_list]
  cases x with
  | nil => exact absurd rfl h
  | cons a l => rfl
theorem kwe1 (F a0 : ByteArray) (Q : Value → Prop) : ffn Tryz.prog (SKw F [.string a0]) [] 900 [] Tryz.f232 [.string F] h0 (fun v _ => Q v) =
    tqT [.string F, .string ⟨#[32]⟩, .int .i64 0, .int .i64 (-1)] (bif (ByteArray.mk #[]).toList == a0.toList then Q (.tuple ⟨[fz ⟨[.string a0]⟩, .bool false]⟩) else Q (.tuple ⟨[fz ⟨[.string a0]⟩, .bool true]⟩)) := by kernel_rfl
theorem kwe2 (F a0 a1 : ByteArray) (Q : Value → Prop) : ffn Tryz.prog (SKw F [.string a0, .string a1]) [] 900 [] Tryz.f232 [.string F] h0 (fun v _ => Q v) =
    tqT [.string F, .string ⟨#[32]⟩, .int .i64 0, .int .i64 (-1)] (bif (ByteArray.mk #[]).toList == a0.toList then Q (.tuple ⟨[fz ⟨[.string a0, .string a1]⟩, .bool false]⟩) else bif (ByteArray.mk #[]).toList == a1.toList then Q (.tuple ⟨[fz ⟨[.string a0, .string a1]⟩, .bool false]⟩) else Q (.tuple ⟨[fz ⟨[.string a0, .string a1]⟩, .bool true]⟩)) := by kernel_rfl
theorem kwe3 (F a0 a1 a2 : ByteArray) (Q : Value → Prop) : ffn Tryz.prog (SKw F [.string a0, .string a1, .string a2]) [] 900 [] Tryz.f232 [.string F] h0 (fun v _ => Q v) =
    tqT [.string F, .string ⟨#[32]⟩, .int .i64 0, .int .i64 (-1)] (bif (ByteArray.mk #[]).toList == a0.toList then Q (.tuple ⟨[fz ⟨[.string a0, .string a1, .string a2]⟩, .bool false]⟩) else bif (ByteArray.mk #[]).toList == a1.toList then Q (.tuple ⟨[fz ⟨[.string a0, .string a1, .string a2]⟩, .bool false]⟩) else bif (ByteArray.mk #[]).toList == a2.toList then Q (.tuple ⟨[fz ⟨[.string a0, .string a1, .string a2]⟩, .bool false]⟩) else Q (.tuple ⟨[fz ⟨[.string a0, .string a1, .string a2]⟩, .bool true]⟩)) := by kernel_rfl
theorem kwe4 (F a0 a1 a2 a3 : ByteArray) (Q : Value → Prop) : ffn Tryz.prog (SKw F [.string a0, .string a1, .string a2, .string a3]) [] 900 [] Tryz.f232 [.string F] h0 (fun v _ => Q v) =
    tqT [.string F, .string ⟨#[32]⟩, .int .i64 0, .int .i64 (-1)] (bif (ByteArray.mk #[]).toList == a0.toList then Q (.tuple ⟨[fz ⟨[.string a0, .string a1, .string a2, .string a3]⟩, .bool false]⟩) else bif (ByteArray.mk #[]).toList == a1.toList then Q (.tuple ⟨[fz ⟨[.string a0, .string a1, .string a2, .string a3]⟩, .bool false]⟩) else bif (ByteArray.mk #[]).toList == a2.toList then Q (.tuple ⟨[fz ⟨[.string a0, .string a1, .string a2, .string a3]⟩, .bool false]⟩) else bif (ByteArray.mk #[]).toList == a3.toList then Q (.tuple ⟨[fz ⟨[.string a0, .string a1, .string a2, .string a3]⟩, .bool false]⟩) else Q (.tuple ⟨[fz ⟨[.string a0, .string a1, .string a2, .string a3]⟩, .bool true]⟩)) := by kernel_rfl
/-- Words with single blanks between. -/
def jw (L : List Bs) : Bs := Lib.join L [32]
def WOk (L : List Bs) : Prop := ∀ w ∈ L, (32 : UInt8) ∉ w ∧ w ≠ []
theorem kw_len : ∀ (L : List Bs) (F : ByteArray), FnOK 0 Tryz.prog 127 ⟨[.string F, .string ⟨#[32]⟩, .int .i64 0, .int .i64 (-1)]⟩ h0 (fun v _ => v = fz ⟨L.map strV⟩) → L ≠ [] ∧ L.length ≤ 4 ∧ WOk L → FnOK 0 Tryz.prog 232 ⟨[.string F]⟩ h0 (fun v _ => v = .tuple ⟨[fz ⟨L.map strV⟩, .bool true]⟩)
  | [], _, _, h => absurd rfl h.1
  | [w0], F, hg, hw => FnOK.ftree (spT_ok (xs := [.string F, .string ⟨#[32]⟩, .int .i64 0, .int .i64 (-1)]) hg rfl rfl).cfg mixed Tryz.func232 someKW (kwe1 F (bl w0) (fun u => u = .tuple ⟨[fz ⟨[w0].map strV⟩, .bool true]⟩)) (tqT_mk (pick_f (ne_e (hw.2.2 w0 (by simp)).2) rfl))
  | [w0, w1], F, hg, hw => FnOK.ftree (spT_ok (xs := [.string F, .string ⟨#[32]⟩, .int .i64 0, .int .i64 (-1)]) hg rfl rfl).cfg mixed Tryz.func232 someKW (kwe2 F (bl w0) (bl w1) (fun u => u = .tuple ⟨[fz ⟨[w0, w1].map strV⟩, .bool true]⟩)) (tqT_mk (pick_f (ne_e (hw.2.2 w0 (by simp)).2) (pick_f (ne_e (hw.2.2 w1 (by simp)).2) rfl)))
  | [w0, w1, w2], F, hg, hw => FnOK.ftree (spT_ok (xs := [.string F, .string ⟨#[32]⟩, .int .i64 0, .int .i64 (-1)]) hg rfl rfl).cfg mixed Tryz.func232 someKW (kwe3 F (bl w0) (bl w1) (bl w2) (fun u => u = .tuple ⟨[fz ⟨[w0, w1, w2].map strV⟩, .bool true]⟩)) (tqT_mk (pick_f (ne_e (hw.2.2 w0 (by simp)).2) (pick_f (ne_e (hw.2.2 w1 (by simp)).2) (pick_f (ne_e (hw.2.2 w2 (by simp)).2) rfl))))
  | [w0, w1, w2, w3], F, hg, hw => FnOK.ftree (spT_ok (xs := [.string F, .string ⟨#[32]⟩, .int .i64 0, .int .i64 (-1)]) hg rfl rfl).cfg mixed Tryz.func232 someKW (kwe4 F (bl w0) (bl w1) (bl w2) (bl w3) (fun u => u = .tuple ⟨[fz ⟨[w0, w1, w2, w3].map strV⟩, .bool true]⟩)) (tqT_mk (pick_f (ne_e (hw.2.2 w0 (by simp)).2) (pick_f (ne_e (hw.2.2 w1 (by simp)).2) (pick_f (ne_e (hw.2.2 w2 (by simp)).2) (pick_f (ne_e (hw.2.2 w3 (by simp)).2) rfl)))))
  | _ :: _ :: _ :: _ :: _ :: _, _, _, h => absurd h.2.1 (by simp)
theorem kw_fn {L : List Bs} (hn : L ≠ []) (h4 : L.length ≤ 4) (hw : WOk L) (hl : (jw L).length ≤ 1000) : FnOK 0 Tryz.prog 232 ⟨[.string (bl (jw L))]⟩ h0 (fun v _ => v = .tuple ⟨[fz ⟨L.map strV⟩, .bool true]⟩) := by
  have hs : spl 32 (jw L) = L := by
    cases L with
    | nil => exact absurd rfl hn
    | cons q r => exact spl_body 32 _ q r (hw q (by simp)).1 (fun p hp => (hw p (by simp [hp])).1) (join_body 32 q r)
  have hg := sp_fn 32 (jw L) hl
  rw [hs] at hg
  exact kw_len L _ hg ⟨hn, h4, hw⟩

/-! Cut -/
noncomputable def spSx (f : FuncId) (args : Array Value) (h : AH) : Option (Bool × Value × AH) :=
  cond (Nat.beq f 212) (match args with
    | ⟨[.string s, .string c]⟩ => some (Nat.beq c.size 1, .int .i64 (Lib.indexByte s.data.toList (hdB c)), h)
    | _ => none) none
theorem spSx_ok : SpOK spSx := by
  intro f args h v h' hs
  unfold spSx at hs
  obtain ⟨hf, hs2⟩ := cond_some hs
  clear hs
  have := Nat.eq_of_beq_eq_true hf
  subst this
  split at hs2
  · injection hs2 with hs
    injection hs with hb hs
    injection hs with hv hh
    subst hv hh
    rename_i s c
    rw [one_eq hb]
    exact ⟨flat_call (args := [.string s, .string ⟨#[hdB c]⟩]) rfl rfl fun w => (Tryz.stringslite_Index_one s (hdB c) w).mono fun e w' ⟨h1, h2⟩ => ⟨h1, h2 ▸ Below.refl _ _⟩, Nat.le_refl _⟩
  · cases hs2
noncomputable def SSx : SC := ⟨idn, spSx, false, false⟩
theorem SSx_ok : SSx.cfg.OK Tryz.prog := spSx_ok.cfg
def ixSp (x : ByteArray) : Int := Lib.indexByte x.data.toList (hdB ⟨#[32]⟩)
theorem cte (x : ByteArray) (Q : Value → Prop) : ffn Tryz.prog SSx [] 900 [] Tryz.f175 [.string x, .string ⟨#[32]⟩] h0 (fun v _ => Q v) =
    bif decide (ixSp x ≥ 0) then bif decide (0 ≤ ixSp x) && decide (ixSp x ≤ (x.size : Int)) then
      bif decide (0 ≤ W (ixSp x + 1)) && decide (W (ixSp x + 1) ≤ (x.size : Int)) && decide ((x.size : Int) ≤ (x.size : Int)) then Q (.tuple ⟨[.string (x.extract 0 (ixSp x).toNat), .string (x.extract (W (ixSp x + 1)).toNat x.size), .bool true]⟩) else False else False
    else Q (.tuple ⟨[.string x, .string ⟨#[]⟩, .bool false]⟩) := by kernel_rfl
theorem someCUT : Tryz.f175.body.isSome = true := by kernel_rfl
theorem cut_fn {f r : Bs} (hf : (32 : UInt8) ∉ f) (hl : (f ++ 32 :: r).length ≤ 100000) : FnOK 0 Tryz.prog 175 ⟨[.string (bl (f ++ 32 :: r)), .string ⟨#[32]⟩]⟩ h0 (fun v _ => v = .tuple ⟨[strV f, strV r, .bool true]⟩) := by
  have hx : ixSp (bl (f ++ 32 :: r)) = (f.length : Int) := by unfold ixSp; rw [bl_list]; exact idx_at r hf
  have hlen : (f ++ 32 :: r).length = f.length + (r.length + 1) := by simp
  have w1 : W ((f.length : Int) + 1) = ((f.length + 1 : Nat) : Int) := w_nat 1 (by omega) (by omega)
  have e1 : (bl (f ++ 32 :: r)).extract 0 f.length = bl f := by
    rw [bl_cut _ _ _ (by omega), List.drop_zero, List.take_left]
  have e2 : (bl (f ++ 32 :: r)).extract (f.length + 1) (f ++ 32 :: r).length = bl r := by
    rw [bl_cut _ _ _ (Nat.le_refl _), List.take_length, ← List.drop_drop, List.drop_left]
    rfl
  refine FnOK.ftree SSx_ok mixed Tryz.func175 someCUT (cte (bl (f ++ 32 :: r)) (fun v => v = .tuple ⟨[strV f, strV r, .bool true]⟩)) ?_
  rw [hx, w1, bl_size]
  simp only [Int.toNat_natCast, e1, e2]
  refine pick_t (decide_eq_true (by omega)) (need_mk ?_ (need_mk ?_ rfl))
  · simp only [Bool.and_eq_true, decide_eq_true_eq]; omega
  · simp only [Bool.and_eq_true, decide_eq_true_eq]; omega

/-! Lines -/
noncomputable def SLi (F : ByteArray) (ws : List Value) : SC := ⟨idn, spT 127 [.string F, .string ⟨#[10]⟩, .int .i64 0, .int .i64 (-1)] (fz ⟨ws⟩), false, false⟩
theorem lie4 (F a b c d : ByteArray) (Q : Value → Prop) : ffn Tryz.prog (SLi F [.string a, .string b, .string c, .string d, .string ⟨#[]⟩]) [] 900 [] Tryz.f192 [.string F] h0 (fun v _ => Q v) =
    tqT [.string F, .string ⟨#[10]⟩, .int .i64 0, .int .i64 (-1)] (Q (.tuple ⟨[fz ⟨[.string a, .string b, .string c, .string d]⟩, .bool true]⟩)) := by kernel_rfl
theorem lie5 (F a b c d e : ByteArray) (Q : Value → Prop) : ffn Tryz.prog (SLi F [.string a, .string b, .string c, .string d, .string e, .string ⟨#[]⟩]) [] 900 [] Tryz.f192 [.string F] h0 (fun v _ => Q v) =
    tqT [.string F, .string ⟨#[10]⟩, .int .i64 0, .int .i64 (-1)] (Q (.tuple ⟨[fz ⟨[.string a, .string b, .string c, .string d, .string e]⟩, .bool true]⟩)) := by kernel_rfl
theorem someLI : Tryz.f192.body.isSome = true := by kernel_rfl
def NOk (L : List Bs) : Prop := ∀ w ∈ L, (10 : UInt8) ∉ w
/-- Lines, each with its end. -/
def lnT (L : List Bs) : Bs := Lib.join (L ++ [[]]) [10]
theorem li_gs {L : List Bs} (hn : L ≠ []) (hw : NOk L) (hl : (lnT L).length ≤ 1000) : FnOK 0 Tryz.prog 127 ⟨[.string (bl (lnT L)), .string ⟨#[10]⟩, .int .i64 0, .int .i64 (-1)]⟩ h0 (fun v _ => v = fz ⟨(L ++ [[]]).map strV⟩) := by
  have hs : spl 10 (lnT L) = L ++ [[]] := by
    cases L with
    | nil => exact absurd rfl hn
    | cons q r =>
      refine spl_body 10 _ q (r ++ [[]]) (hw q (by simp)) (fun p hp => ?_) (join_body 10 q (r ++ [[]]))
      rcases List.mem_append.1 hp with h | h
      · exact hw p (by simp [h])
      · rw [List.mem_singleton.1 h]; simp
  have hg := sp_fn 10 (lnT L) hl
  rw [hs] at hg
  exact hg
theorem li_fn : ∀ {L : List Bs}, (L.length = 4 ∨ L.length = 5) → NOk L → (lnT L).length ≤ 1000 → FnOK 0 Tryz.prog 192 ⟨[.string (bl (lnT L))]⟩ h0 (fun v _ => v = .tuple ⟨[fz ⟨L.map strV⟩, .bool true]⟩)
  | [a, b, c, d], _, hw, hl => FnOK.ftree (spT_ok (xs := [.string (bl (lnT [a, b, c, d])), .string ⟨#[10]⟩, .int .i64 0, .int .i64 (-1)]) (li_gs (by simp) hw hl) rfl rfl).cfg mixed Tryz.func192 someLI (lie4 (bl (lnT [a, b, c, d])) (bl a) (bl b) (bl c) (bl d) (fun v => v = .tuple ⟨[fz ⟨[a, b, c, d].map strV⟩, .bool true]⟩)) (tqT_mk rfl)
  | [a, b, c, d, e], _, hw, hl => FnOK.ftree (spT_ok (xs := [.string (bl (lnT [a, b, c, d, e])), .string ⟨#[10]⟩, .int .i64 0, .int .i64 (-1)]) (li_gs (by simp) hw hl) rfl rfl).cfg mixed Tryz.func192 someLI (lie5 (bl (lnT [a, b, c, d, e])) (bl a) (bl b) (bl c) (bl d) (bl e) (fun v => v = .tuple ⟨[fz ⟨[a, b, c, d, e].map strV⟩, .bool true]⟩)) (tqT_mk rfl)
  | [], h, _, _ => absurd h (by simp)
  | [_], h, _, _ => absurd h (by simp)
  | [_, _], h, _, _ => absurd h (by simp)
  | [_, _, _], h, _, _ => absurd h (by simp)
  | _ :: _ :: _ :: _ :: _ :: _ :: _, h, _, _ => absurd h (by simp)

/-! numbers -/
def isSN (b : ByteArray) (x : Option (Value × AH)) : Bool :=
  match x with
  | some (.string c, _) => c.data.toList == b.data.toList
  | _ => false
theorem isSN_eq {b : ByteArray} {x : Option (Value × AH)} (h : isSN b x = true) : ∃ h', x = some (.string b, h') := by
  unfold isSN at h
  split at h
  · rename_i c h'
    have := eq_of_beq h
    rw [← bl_self c, ← bl_self b, this]
    exact ⟨h', rfl⟩
  · cases h
def isIB (n : Int) (x : Option (Value × AH)) : Bool :=
  match x with
  | some (.tuple ⟨[.int .i64 c, .bool true]⟩, _) => c == n
  | _ => false
theorem isIB_eq {n : Int} {x : Option (Value × AH)} (h : isIB n x = true) : ∃ h', x = some (.tuple ⟨[.int .i64 n, .bool true]⟩, h') := by
  unfold isIB at h
  split at h
  · rename_i c h'
    have := eq_of_beq h
    subst this
    exact ⟨h', rfl⟩
  · cases h
def nuL : List (Nat × Bs) := [(0, [48]), (1, [49]), (50, [53, 48]), (51, [53, 49]), (100, [49, 48, 48]), (101, [49, 48, 49]), (150, [49, 53, 48]), (200, [50, 48, 48]), (250, [50, 53, 48]), (300, [51, 48, 48])]
def nuT (n : Nat) : Bs := match nuL.find? (fun t => t.1 == n) with
  | some t => t.2
  | none => []
def nuN (s : Bs) : Nat := match nuL.find? (fun t => t.2 == s) with
  | some t => t.1
  | none => 0
noncomputable def SNu : SC := ⟨idn, spNg, false, false⟩
theorem SNu_ok : SNu.cfg.OK Tryz.prog := spNg_ok.cfg
theorem someIT : Tryz.f99.body.isSome = true := by kernel_rfl
theorem someNU : Tryz.f233.body.isSome = true := by kernel_rfl
noncomputable def runIt (t : Nat × Bs) : Bool := isSN (bl t.2) (arunz Tryz.prog SNu.cfg 3000 Tryz.f99 [.int .i64 (t.1 : Int)] h0)
noncomputable def runNu (t : Nat × Bs) : Bool := isIB (t.1 : Int) (arunz Tryz.prog SNu.cfg 3000 Tryz.f233 [.string (bl t.2), .int .i64 15] h0)
theorem it0 : runIt (0, [48]) = true := by kernel_rfl
theorem nu0 : runNu (0, [48]) = true := by kernel_rfl
theorem it1 : runIt (1, [49]) = true := by kernel_rfl
theorem nu1 : runNu (1, [49]) = true := by kernel_rfl
theorem it2 : runIt (50, [53, 48]) = true := by kernel_rfl
theorem nu2 : runNu (50, [53, 48]) = true := by kernel_rfl
theorem it3 : runIt (51, [53, 49]) = true := by kernel_rfl
theorem nu3 : runNu (51, [53, 49]) = true := by kernel_rfl
theorem it4 : runIt (100, [49, 48, 48]) = true := by kernel_rfl
theorem nu4 : runNu (100, [49, 48, 48]) = true := by kernel_rfl
theorem it5 : runIt (101, [49, 48, 49]) = true := by kernel_rfl
theorem nu5 : runNu (101, [49, 48, 49]) = true := by kernel_rfl
theorem it6 : runIt (150, [49, 53, 48]) = true := by kernel_rfl
theorem nu6 : runNu (150, [49, 53, 48]) = true := by kernel_rfl
theorem it7 : runIt (200, [50, 48, 48]) = true := by kernel_rfl
theorem nu7 : runNu (200, [50, 48, 48]) = true := by kernel_rfl
theorem it8 : runIt (250, [50, 53, 48]) = true := by kernel_rfl
theorem nu8 : runNu (250, [50, 53, 48]) = true := by kernel_rfl
theorem it9 : runIt (300, [51, 48, 48]) = true := by kernel_rfl
theorem nu9 : runNu (300, [51, 48, 48]) = true := by kernel_rfl
theorem it_runs : ∀ t ∈ nuL, runIt t = true := by
  intro t ht
  simp only [nuL, List.mem_cons, List.not_mem_nil, or_false] at ht
  rcases ht with rfl | rfl | rfl | rfl | rfl | rfl | rfl | rfl | rfl | rfl
  · exact it0
  · exact it1
  · exact it2
  · exact it3
  · exact it4
  · exact it5
  · exact it6
  · exact it7
  · exact it8
  · exact it9
theorem nu_runs : ∀ t ∈ nuL, runNu t = true := by
  intro t ht
  simp only [nuL, List.mem_cons, List.not_mem_nil, or_false] at ht
  rcases ht with rfl | rfl | rfl | rfl | rfl | rfl | rfl | rfl | rfl | rfl
  · exact nu0
  · exact nu1
  · exact nu2
  · exact nu3
  · exact nu4
  · exact nu5
  · exact nu6
  · exact nu7
  · exact nu8
  · exact nu9
theorem it_fn {t : Nat × Bs} (h : t ∈ nuL) : FnOK 0 Tryz.prog 99 ⟨[.int .i64 (t.1 : Int)]⟩ h0 (fun u _ => u = strV t.2) := by
  obtain ⟨h', hr⟩ := isSN_eq (it_runs t h)
  exact (arunz_ok SNu_ok mixed Tryz.func99 someIT hr).mono fun _ _ q => q.1
theorem nu_fn {t : Nat × Bs} (h : t ∈ nuL) : FnOK 0 Tryz.prog 233 ⟨[strV t.2, .int .i64 15]⟩ h0 (fun u _ => u = .tuple ⟨[.int .i64 (t.1 : Int), .bool true]⟩) := by
  obtain ⟨h', hr⟩ := isIB_eq (nu_runs t h)
  exact (arunz_ok SNu_ok mixed Tryz.func233 someNU hr).mono fun _ _ q => q.1
noncomputable def inNu (n : Int) : Bool := decide (0 ≤ n) && (nuL.map (·.1)).contains n.toNat
noncomputable def inNt (s : ByteArray) : Bool := (nuL.map (·.2)).contains s.data.toList
theorem nuT_in : ∀ n ∈ nuL.map (·.1), (n, nuT n) ∈ nuL := by decide +kernel
theorem nuN_in : ∀ s ∈ nuL.map (·.2), (nuN s, s) ∈ nuL := by decide +kernel
theorem nuT_ok : ∀ n ∈ nuL.map (·.1), (nuT n).length ≤ 3 ∧ (32 : UInt8) ∉ nuT n ∧ (10 : UInt8) ∉ nuT n ∧ nuT n ≠ [] ∧ nuT n ∈ nuL.map (·.2) ∧ nuN (nuT n) = n := by decide +kernel
noncomputable def spIt (f : FuncId) (args : Array Value) (h : AH) : Option (Bool × Value × AH) :=
  cond (Nat.beq f 99) (match args with
    | ⟨[.int .i64 n]⟩ => some (inNu n, .string (bl (nuT n.toNat)), h)
    | _ => none) none
theorem spIt_ok : SpOK spIt := by
  intro f args h v h' hs
  unfold spIt at hs
  obtain ⟨hf, hs2⟩ := cond_some hs
  clear hs
  have := Nat.eq_of_beq_eq_true hf
  subst this
  split at hs2
  · injection hs2 with hs
    injection hs with hb hs
    injection hs with hv hh
    subst hv hh
    rename_i n
    unfold inNu at hb
    rw [Bool.and_eq_true, decide_eq_true_eq] at hb
    have hm : n.toNat ∈ nuL.map (·.1) := by simpa using hb.2
    have := it_fn (nuT_in _ hm)
    rw [show (((n.toNat, nuT n.toNat) : Nat × Bs).1 : Int) = n from Int.toNat_of_nonneg hb.1] at this
    exact ⟨FnOK.pure this rfl rfl h, Nat.le_refl _⟩
  · cases hs2
noncomputable def spNu (f : FuncId) (args : Array Value) (h : AH) : Option (Bool × Value × AH) :=
  cond (Nat.beq f 233) (match args with
    | ⟨[.string s, .int .i64 k]⟩ => some (inNt s && decide (k = 15), .tuple ⟨[.int .i64 (nuN s.data.toList : Int), .bool true]⟩, h)
    | _ => none) none
theorem spNu_ok : SpOK spNu := by
  intro f args h v h' hs
  unfold spNu at hs
  obtain ⟨hf, hs2⟩ := cond_some hs
  clear hs
  have := Nat.eq_of_beq_eq_true hf
  subst this
  split at hs2
  · injection hs2 with hs
    injection hs with hb hs
    injection hs with hv hh
    subst hv hh
    rename_i s k
    rw [Bool.and_eq_true, decide_eq_true_eq] at hb
    obtain ⟨b1, rfl⟩ := hb
    have hm : s.data.toList ∈ nuL.map (·.2) := by simpa [inNt] using b1
    have := nu_fn (nuN_in _ hm)
    unfold strV at this
    rw [bl_self] at this
    exact ⟨FnOK.pure this rfl rfl h, Nat.le_refl _⟩
  · cases hs2

/-! the reader's lines -/
def lrO (Ls : List Value) (e : Bool) (at_ : Int) (bad : Bool) : Obj := .cells ⟨[fz ⟨Ls⟩, .bool e, .int .i64 at_, .bool bad]⟩ 230 (0, 0)
noncomputable def SLn (l f r : ByteArray) (ws : List Value) : SC := ⟨idn, spOr (spT 175 [.string l, .string ⟨#[32]⟩] (.tuple ⟨[.string f, .string r, .bool true]⟩)) (spT 232 [.string r] (.tuple ⟨[fz ⟨ws⟩, .bool true]⟩)), true, true⟩
def elL (Ls : List Value) (i : Int) : Value := (Array.mk Ls).toList.getD i.toNat undef
noncomputable def lnE (Ls : List Value) (at_ : Int) (word : ByteArray) (must : Bool) (l f r : ByteArray) (ws : List Value) (Q : Value → Option Obj → Prop) : Prop :=
  bif at_ == ((Array.mk Ls).size : Int) then Q (.slice none 0 0) (some (lrO Ls true at_ must)) else
    bif decide (0 ≤ at_) && decide (at_ < ((Array.mk Ls).size : Int)) && true then elL Ls at_ = .string (toStr (elL Ls at_)) ∧
      tqU [.string (toStr (elL Ls at_)), .string ⟨#[32]⟩] [.string l, .string ⟨#[32]⟩] (bif !(f.toList == word.toList) then Q (.slice none 0 0) (some (lrO Ls true at_ must)) else
        tqT [.string r] (Q (fz ⟨ws⟩) (some (lrO Ls true (W (at_ + 1)) false))))
    else False
theorem lne (Ls : List Value) (at_ : Int) (word : ByteArray) (must : Bool) (l f r : ByteArray) (ws : List Value) (Q : Value → Option Obj → Prop) : ffn Tryz.prog (SLn l f r ws) [] 900 [] Tryz.f194 [.pointer (some ⟨0, 0, none⟩), .string word, .bool must] (Ev.h1 (lrO Ls true at_ false)) (fun v h => Q v (h.get 0)) =
    lnE Ls at_ word must l f r ws Q := by kernel_rfl
theorem someLN : Tryz.f194.body.isSome = true := by kernel_rfl
abbrev LnR : Type := ByteArray × ByteArray × List Value
def LnOK (Ls : List Value) (T : List LnR) : Prop := Ls.length = T.length ∧ T.length ≤ 1000 ∧ ∀ (i : Nat) (t : LnR), T[i]? = some t → ∃ l : ByteArray, Ls[i]? = some (.string l) ∧
  FnOK 0 Tryz.prog 175 ⟨[.string l, .string ⟨#[32]⟩]⟩ h0 (fun v _ => v = .tuple ⟨[.string t.1, .string t.2.1, .bool true]⟩) ∧ FnOK 0 Tryz.prog 232 ⟨[.string t.2.1]⟩ h0 (fun v _ => v = .tuple ⟨[fz ⟨t.2.2⟩, .bool true]⟩)
open Classical in
noncomputable def okLn (Ls : List Value) (T : List LnR) : Bool := @decide (LnOK Ls T) (Classical.propDecidable _)
open Classical in
theorem okLn_iff {Ls : List Value} {T : List LnR} : okLn Ls T = true ↔ LnOK Ls T := by unfold okLn; exact @decide_eq_true_iff _ (Classical.propDecidable _)
noncomputable def spLn (T : List LnR) (f : FuncId) (args : Array Value) (h : AH) : Option (Bool × Value × AH) :=
  cond (Nat.beq f 194) (match args with
    | ⟨[.pointer (some ⟨b, 0, none⟩), .string word, .bool must]⟩ => match h.get b with
      | some (.cells ⟨[.func (.yield 0) ⟨Ls⟩ ⟨[]⟩, .bool true, .int .i64 at_, .bool false]⟩ t (0, 0)) => match T[at_.toNat]? with
        | some (fst, _, ws) => cond (!(fst.toList == word.toList)) (some (Nat.beq t 230 && decide (0 ≤ at_) && okLn Ls T, .slice none 0 0, h.set b (lrO Ls true at_ must)))
          (some (Nat.beq t 230 && decide (0 ≤ at_) && okLn Ls T, fz ⟨ws⟩, h.set b (lrO Ls true (at_ + 1) false)))
        | none => none
      | _ => none
    | _ => none) none
theorem ln_fn {Ls : List Value} {T : List LnR} (ok : LnOK Ls T) {i : Nat} {t : LnR} (ht : T[i]? = some t) (word : ByteArray) (must : Bool) :
    FnOK 1 Tryz.prog 194 ⟨[.pointer (some ⟨0, 0, none⟩), .string word, .bool must]⟩ (Ev.h1 (lrO Ls true (i : Int) false)) (fun v g => cond (!(t.1.toList == word.toList)) (v = .slice none 0 0 ∧ g.get 0 = some (lrO Ls true (i : Int) must)) (v = fz ⟨t.2.2⟩ ∧ g.get 0 = some (lrO Ls true ((i : Int) + 1) false))) := by
  obtain ⟨n1, n3, n2⟩ := ok
  obtain ⟨l, hl, h1, h2⟩ := n2 i t ht
  have hi : i < T.length := (List.getElem?_eq_some_iff.1 ht).1
  have hel : elL Ls (i : Int) = .string l := by
    unfold elL
    show Ls.getD (i : Int).toNat _ = _
    rw [Int.toNat_natCast, List.getD_eq_getElem?_getD, hl]
    rfl
  have w1 : W ((i : Int) + 1) = (i : Int) + 1 := wrap_id _ (by omega) (by omega)
  refine FnOK.ftree ((spT_ok h1 rfl rfl).or (spT_ok h2 rfl rfl)).cfg mixed Tryz.func194 someLN (lne Ls (i : Int) word must l t.1 t.2.1 t.2.2 (fun v o => cond (!(t.1.toList == word.toList)) (v = .slice none 0 0 ∧ o = some (lrO Ls true (i : Int) must)) (v = fz ⟨t.2.2⟩ ∧ o = some (lrO Ls true ((i : Int) + 1) false)))) ?_
  unfold lnE
  rw [hel, w1]
  have hsz : ((Array.mk Ls).size : Int) = (T.length : Int) := by show (Ls.length : Int) = _; rw [n1]
  rw [hsz]
  refine pick_f (by rw [beq_eq_false_iff_ne]; omega) (need_mk (by rw [decide_eq_true (show (0 : Int) ≤ (i : Int) by omega), decide_eq_true (show (i : Int) < (T.length : Int) by omega)]; rfl) ⟨rfl, tqU_mk rfl ?_⟩)
  cases hc : (!(t.1.toList == word.toList)) with
  | true => exact pick_t rfl ⟨rfl, rfl⟩
  | false => exact pick_f rfl (tqT_mk ⟨rfl, rfl⟩)
theorem spLn_ok (T : List LnR) : SpOK (spLn T) := by
  intro f args h v h' hs
  unfold spLn at hs
  obtain ⟨hf, hs2⟩ := cond_some hs
  clear hs
  have := Nat.eq_of_beq_eq_true hf
  subst this
  split at hs2
  · rename_i b word must
    split at hs2
    · rename_i Ls at_ t hg
      split at hs2
      · rename_i fst rest ws hT
        cases hc : (!(fst.toList == word.toList)) with
        | true =>
          rw [hc, cond_true] at hs2
          injection hs2 with hs
          injection hs with hb hs
          injection hs with hv hh
          subst hv hh
          simp only [Bool.and_eq_true, decide_eq_true_eq] at hb
          obtain ⟨⟨b1, b2⟩, b3⟩ := hb
          have b1 := Nat.eq_of_beq_eq_true b1
          subst b1
          have hF := ln_fn (okLn_iff.1 b3) hT word must
          rw [hc, Int.toNat_of_nonneg b2] at hF
          exact ⟨FnOK.ref (cs := ⟨[fz ⟨Ls⟩, .bool true, .int .i64 at_, .bool false]⟩) (cs' := ⟨[fz ⟨Ls⟩, .bool true, .int .i64 at_, .bool must]⟩) (args := [.string word, .bool must]) hF rfl (by simp [p1, fz]) (by simp [p1, fz]) rfl hg, Nat.le_refl _⟩
        | false =>
          rw [hc, cond_false] at hs2
          injection hs2 with hs
          injection hs with hb hs
          injection hs with hv hh
          subst hv hh
          simp only [Bool.and_eq_true, decide_eq_true_eq] at hb
          obtain ⟨⟨b1, b2⟩, b3⟩ := hb
          have b1 := Nat.eq_of_beq_eq_true b1
          subst b1
          have hF := ln_fn (okLn_iff.1 b3) hT word must
          rw [hc, Int.toNat_of_nonneg b2] at hF
          exact ⟨FnOK.ref (cs := ⟨[fz ⟨Ls⟩, .bool true, .int .i64 at_, .bool false]⟩) (cs' := ⟨[fz ⟨Ls⟩, .bool true, .int .i64 (at_ + 1), .bool false]⟩) (args := [.string word, .bool must]) hF rfl (by simp [p1, fz]) (by simp [p1, fz]) rfl hg, Nat.le_refl _⟩
      · cases hs2
    · cases hs2
  · cases hs2

/-! ReadClaims -/
def clV (id sub iss : ByteArray) (sc : Value) (fr til : Int) : Value := .agg ⟨[.string id, .string sub, .string iss, .string ⟨#[]⟩, .slice none 0 0, sc, .int .i64 fr, .int .i64 til]⟩
noncomputable def lkT (Ls : List Value) (T : List LnR) (X : Prop) : Prop := bif okLn Ls T then X else False
noncomputable def ntT (s : ByteArray) (X : Prop) : Prop := bif inNt s && true then X else False
noncomputable def SRcN (text l0 l1 l2 l3 id sub iss ft a b : ByteArray) : SC := ⟨idn, spOr (spT 192 [.string text] (.tuple ⟨[fz ⟨[.string l0, .string l1, .string l2, .string l3]⟩, .bool true]⟩)) (spOr (spLn [(⟨#[105, 100]⟩, id, [.string id]), (⟨#[115, 117, 98, 106, 101, 99, 116]⟩, sub, [.string sub]), (⟨#[105, 115, 115, 117, 101, 114]⟩, iss, [.string iss]), (⟨#[116, 105, 109, 101]⟩, ft, [.string a, .string b])]) (spOr spNu (spT 38 [clV id sub iss (.slice none 0 0) (nuN a.data.toList : Int) (nuN b.data.toList : Int)] (.int .i64 0)))), false, false⟩
set_option maxRecDepth 20000 in
theorem rceN (text l0 l1 l2 l3 id sub iss ft a b : ByteArray) (Q : Value → Prop) : ffn Tryz.prog (SRcN text l0 l1 l2 l3 id sub iss ft a b ) [] 3000 [] Tryz.f147 [.string text] h0 (fun v _ => Q v) =
    bif decide ((text.size : Int) > 4000) then Q (.tuple ⟨[clV ⟨#[]⟩ ⟨#[]⟩ ⟨#[]⟩ (.slice none 0 0) 0 0, .int .i64 0, .int .i64 2]⟩) else tqT [.string text] (lkT [.string l0, .string l1, .string l2, .string l3] [(⟨#[105, 100]⟩, id, [.string id]), (⟨#[115, 117, 98, 106, 101, 99, 116]⟩, sub, [.string sub]), (⟨#[105, 115, 115, 117, 101, 114]⟩, iss, [.string iss]), (⟨#[116, 105, 109, 101]⟩, ft, [.string a, .string b])] (lkT [.string l0, .string l1, .string l2, .string l3] [(⟨#[105, 100]⟩, id, [.string id]), (⟨#[115, 117, 98, 106, 101, 99, 116]⟩, sub, [.string sub]), (⟨#[105, 115, 115, 117, 101, 114]⟩, iss, [.string iss]), (⟨#[116, 105, 109, 101]⟩, ft, [.string a, .string b])] (lkT [.string l0, .string l1, .string l2, .string l3] [(⟨#[105, 100]⟩, id, [.string id]), (⟨#[115, 117, 98, 106, 101, 99, 116]⟩, sub, [.string sub]), (⟨#[105, 115, 115, 117, 101, 114]⟩, iss, [.string iss]), (⟨#[116, 105, 109, 101]⟩, ft, [.string a, .string b])] (lkT [.string l0, .string l1, .string l2, .string l3] [(⟨#[105, 100]⟩, id, [.string id]), (⟨#[115, 117, 98, 106, 101, 99, 116]⟩, sub, [.string sub]), (⟨#[105, 115, 115, 117, 101, 114]⟩, iss, [.string iss]), (⟨#[116, 105, 109, 101]⟩, ft, [.string a, .string b])] (lkT [.string l0, .string l1, .string l2, .string l3] [(⟨#[105, 100]⟩, id, [.string id]), (⟨#[115, 117, 98, 106, 101, 99, 116]⟩, sub, [.string sub]), (⟨#[105, 115, 115, 117, 101, 114]⟩, iss, [.string iss]), (⟨#[116, 105, 109, 101]⟩, ft, [.string a, .string b])] (lkT [.string l0, .string l1, .string l2, .string l3] [(⟨#[105, 100]⟩, id, [.string id]), (⟨#[115, 117, 98, 106, 101, 99, 116]⟩, sub, [.string sub]), (⟨#[105, 115, 115, 117, 101, 114]⟩, iss, [.string iss]), (⟨#[116, 105, 109, 101]⟩, ft, [.string a, .string b])] (lkT [.string l0, .string l1, .string l2, .string l3] [(⟨#[105, 100]⟩, id, [.string id]), (⟨#[115, 117, 98, 106, 101, 99, 116]⟩, sub, [.string sub]), (⟨#[105, 115, 115, 117, 101, 114]⟩, iss, [.string iss]), (⟨#[116, 105, 109, 101]⟩, ft, [.string a, .string b])] (ntT a (ntT b (tqT [clV id sub iss (.slice none 0 0) (nuN a.data.toList : Int) (nuN b.data.toList : Int)] (Q (.tuple ⟨[clV id sub iss (.slice none 0 0) (nuN a.data.toList : Int) (nuN b.data.toList : Int), .int .i64 0, .int .i64 0]⟩)))))))))))) := by kernel_rfl
noncomputable def SRcM (text l0 l1 l2 l3 l4 j id sub iss ft a b : ByteArray) (S : List Value) : SC := ⟨idn, spOr (spT 192 [.string text] (.tuple ⟨[fz ⟨[.string l0, .string l1, .string l2, .string l3, .string l4]⟩, .bool true]⟩)) (spOr (spLn [(⟨#[105, 100]⟩, id, [.string id]), (⟨#[115, 117, 98, 106, 101, 99, 116]⟩, sub, [.string sub]), (⟨#[105, 115, 115, 117, 101, 114]⟩, iss, [.string iss]), (⟨#[109, 97, 121]⟩, j, S), (⟨#[116, 105, 109, 101]⟩, ft, [.string a, .string b])]) (spOr spNu (spT 38 [clV id sub iss (fz ⟨S⟩) (nuN a.data.toList : Int) (nuN b.data.toList : Int)] (.int .i64 0)))), false, false⟩
set_option maxRecDepth 20000 in
theorem rceM (text l0 l1 l2 l3 l4 j id sub iss ft a b : ByteArray) (S : List Value) (Q : Value → Prop) : ffn Tryz.prog (SRcM text l0 l1 l2 l3 l4 j id sub iss ft a b S) [] 3000 [] Tryz.f147 [.string text] h0 (fun v _ => Q v) =
    bif decide ((text.size : Int) > 4000) then Q (.tuple ⟨[clV ⟨#[]⟩ ⟨#[]⟩ ⟨#[]⟩ (.slice none 0 0) 0 0, .int .i64 0, .int .i64 2]⟩) else tqT [.string text] (lkT [.string l0, .string l1, .string l2, .string l3, .string l4] [(⟨#[105, 100]⟩, id, [.string id]), (⟨#[115, 117, 98, 106, 101, 99, 116]⟩, sub, [.string sub]), (⟨#[105, 115, 115, 117, 101, 114]⟩, iss, [.string iss]), (⟨#[109, 97, 121]⟩, j, S), (⟨#[116, 105, 109, 101]⟩, ft, [.string a, .string b])] (lkT [.string l0, .string l1, .string l2, .string l3, .string l4] [(⟨#[105, 100]⟩, id, [.string id]), (⟨#[115, 117, 98, 106, 101, 99, 116]⟩, sub, [.string sub]), (⟨#[105, 115, 115, 117, 101, 114]⟩, iss, [.string iss]), (⟨#[109, 97, 121]⟩, j, S), (⟨#[116, 105, 109, 101]⟩, ft, [.string a, .string b])] (lkT [.string l0, .string l1, .string l2, .string l3, .string l4] [(⟨#[105, 100]⟩, id, [.string id]), (⟨#[115, 117, 98, 106, 101, 99, 116]⟩, sub, [.string sub]), (⟨#[105, 115, 115, 117, 101, 114]⟩, iss, [.string iss]), (⟨#[109, 97, 121]⟩, j, S), (⟨#[116, 105, 109, 101]⟩, ft, [.string a, .string b])] (lkT [.string l0, .string l1, .string l2, .string l3, .string l4] [(⟨#[105, 100]⟩, id, [.string id]), (⟨#[115, 117, 98, 106, 101, 99, 116]⟩, sub, [.string sub]), (⟨#[105, 115, 115, 117, 101, 114]⟩, iss, [.string iss]), (⟨#[109, 97, 121]⟩, j, S), (⟨#[116, 105, 109, 101]⟩, ft, [.string a, .string b])] (lkT [.string l0, .string l1, .string l2, .string l3, .string l4] [(⟨#[105, 100]⟩, id, [.string id]), (⟨#[115, 117, 98, 106, 101, 99, 116]⟩, sub, [.string sub]), (⟨#[105, 115, 115, 117, 101, 114]⟩, iss, [.string iss]), (⟨#[109, 97, 121]⟩, j, S), (⟨#[116, 105, 109, 101]⟩, ft, [.string a, .string b])] (lkT [.string l0, .string l1, .string l2, .string l3, .string l4] [(⟨#[105, 100]⟩, id, [.string id]), (⟨#[115, 117, 98, 106, 101, 99, 116]⟩, sub, [.string sub]), (⟨#[105, 115, 115, 117, 101, 114]⟩, iss, [.string iss]), (⟨#[109, 97, 121]⟩, j, S), (⟨#[116, 105, 109, 101]⟩, ft, [.string a, .string b])] (lkT [.string l0, .string l1, .string l2, .string l3, .string l4] [(⟨#[105, 100]⟩, id, [.string id]), (⟨#[115, 117, 98, 106, 101, 99, 116]⟩, sub, [.string sub]), (⟨#[105, 115, 115, 117, 101, 114]⟩, iss, [.string iss]), (⟨#[109, 97, 121]⟩, j, S), (⟨#[116, 105, 109, 101]⟩, ft, [.string a, .string b])] (ntT a (ntT b (tqT [clV id sub iss (fz ⟨S⟩) (nuN a.data.toList : Int) (nuN b.data.toList : Int)] (Q (.tuple ⟨[clV id sub iss (fz ⟨S⟩) (nuN a.data.toList : Int) (nuN b.data.toList : Int), .int .i64 0, .int .i64 0]⟩)))))))))))) := by kernel_rfl
theorem someRDC : Tryz.f147.body.isSome = true := by kernel_rfl
end Go.Proofs.YtklednomnpghcaaGreatDoor
