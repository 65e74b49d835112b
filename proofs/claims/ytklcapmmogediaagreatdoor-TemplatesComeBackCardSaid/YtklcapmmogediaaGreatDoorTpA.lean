/-
  Templates: strings that are joined and taken apart.
-/
import Derived.Test.YtklcapmmogediaaGreatDoorBase
import Derived.Test.YtklcapmmogediaaGreatDoorTpS
import Derived.Below
import Derived.Lib.Bytealg
namespace Go.Ev
open Go.RowKit
/-- The row of a slice gets the mark 1. -/
noncomputable def markG (s : Nat) : LS := fun t h K => match t.get s with
  | .slice (some ⟨b, 0, none⟩) _ _ => match h.get b with
    | some (.cells c ty (0, 0)) => K .normal t (h.set b (.cells c ty (1, 1)))
    | _ => False
  | _ => False
theorem markG_ok (p : Nat) (P : Program) (m s : Nat) : GSpec p P m (markG s) := by
  intro t τ h K hr hs
  unfold markG at hs
  split at hs
  · split at hs
    · rename_i c ty hg
      exact ⟨t, τ, _, Weak.mark 0 1 hg, hr, hs⟩
    · exact hs.elim
  · exact hs.elim
noncomputable def thenLS (ls g : LS) : LS := fun t h K => ls t h fun e t' h' => match e with
  | .exit i => g t' h' fun _ t2 h2 => K (.exit i) t2 h2
  | e => K e t' h'
theorem thenLS_ok {p : Nat} {P : Program} {m : Nat} {b : Code} {ls g : LS} (hl : LSpec p P m b ls) (hg : GSpec p P m g) : LSpec p P m b (thenLS ls g) := by
  intro t τ h K hr hs
  refine Tri.post ((hl t τ h _ hr hs).mono ?_)
  rintro e τ' h' ⟨t', hr', hq⟩
  cases e with
  | exit i =>
    obtain ⟨t2, τ2, h2, hW, hr2, hq2⟩ := hg t' τ' h' _ hr' hq
    exact ⟨τ2, h2, hW, t2, hr2, hq2⟩
  | normal => exact ⟨τ', h', Weak.refl _ _ _ _, t', hr', hq⟩
  | ret => exact ⟨τ', h', Weak.refl _ _ _ _, t', hr', hq⟩
end Go.Ev
/-! Plain laws for TemplatesComeBack. -/
namespace TplLaw
open Go.Lib
/-- A part: its kind, its name. -/
abbrev Pt := Int × List UInt8
def allN : List (List UInt8) := [[97], [98, 32, 99], [], [97, 47, 98], [255], [46, 46], [123], [105, 100], [120], [114, 101, 115, 116], [49], [105, 110]]
def allK : List Int := [1, 2, 3, 0, 4, -1099511627776, 1099511627776]
def inPt (p : Pt) : Prop := p.1 ∈ allK ∧ p.2 ∈ allN
def freeB (c : UInt8) : Bool := (decide (48 ≤ c.toNat) && decide (c.toNat ≤ 57)) || (decide (65 ≤ c.toNat) && decide (c.toNat ≤ 90)) || (decide (97 ≤ c.toNat) && decide (c.toNat ≤ 122)) || [45, 46, 95, 126, 33, 36, 38, 39, 40, 41, 42, 43, 44, 59, 61, 58, 64].contains c
def hexB (n : Nat) : UInt8 := UInt8.ofNat (if n < 10 then 48 + n else 55 + n)
/-- A segment as it is written. -/
def segB (l : List UInt8) : List UInt8 := l.flatMap fun c => bif freeB c then [c] else [37, hexB (c.toNat / 16), hexB (c.toNat % 16)]
def wordB (l : List UInt8) : Bool := l == [97] || l == [105, 100] || l == [120] || l == [114, 101, 115, 116]
def dotsB (l : List UInt8) : Bool := l == [46] || l == [46, 46]
def piece (p : Pt) : List UInt8 := if p.1 = 1 then segB p.2 else if p.1 = 2 then 123 :: (p.2 ++ [125]) else 123 :: (p.2 ++ [42, 125])
def text (L : List Pt) : List UInt8 := L.flatMap fun p => 47 :: piece p
def hasP (L : List Pt) (n : List UInt8) : Bool := L.any fun p => p.1 != 1 && p.2 == n
/-- A part that nothing is wrong with, by those before it. -/
def okAt (before : List Pt) (p : Pt) (last : Bool) : Bool :=
  bif p.1 == 1 then !dotsB p.2 else (p.1 == 2 || p.1 == 3) && wordB p.2 && !hasP before p.2 && (p.1 == 2 || last)
def okL : List Pt → List Pt → Bool
  | _, [] => true
  | b, p :: l => okAt b p l.isEmpty && okL (b ++ [p]) l
theorem seg_47 : ∀ n ∈ allN, (47 : UInt8) ∉ segB n := by decide +kernel
theorem word_47 : ∀ n ∈ allN, wordB n = true → (47 : UInt8) ∉ n := by decide +kernel
theorem seg_len : ∀ n ∈ allN, (segB n).length ≤ 20 ∧ n.length ≤ 20 := by decide +kernel
/-- A piece and those behind it. -/
def tail (r : List (List UInt8)) : List UInt8 := r.flatMap fun p => 47 :: p
theorem text_tail (L : List Pt) : text L = tail (L.map piece) := by
  induction L with
  | nil => rfl
  | cons p l ih =>
    show (47 :: piece p) ++ text l = (47 :: piece p) ++ tail (l.map piece)
    rw [ih]
theorem idx_none : ∀ {q : List UInt8}, (47 : UInt8) ∉ q → indexByte q 47 = -1
  | [], _ => rfl
  | b :: l, h => by
    have h1 : (b == 47) = false := beq_eq_false_iff_ne.2 fun e => h (by rw [e]; simp)
    have h2 := idx_none (q := l) fun e => h (List.mem_cons_of_mem _ e)
    unfold indexByte
    rw [h1, h2]
    rfl
theorem idx_at : ∀ {q : List UInt8} (s : List UInt8), (47 : UInt8) ∉ q → indexByte (q ++ 47 :: s) 47 = (q.length : Int)
  | [], s, _ => rfl
  | b :: l, s, h => by
    have h1 : (b == 47) = false := beq_eq_false_iff_ne.2 fun e => h (by rw [e]; simp)
    have h2 := idx_at (q := l) s fun e => h (List.mem_cons_of_mem _ e)
    show indexByte (b :: (l ++ 47 :: s)) 47 = _
    unfold indexByte
    rw [h1, h2]
    have h3 : ((l.length : Int) == -1) = false := beq_eq_false_iff_ne.2 (by omega)
    rw [h3]
    simp
def body (q : List UInt8) (r : List (List UInt8)) : List UInt8 := q ++ tail r
theorem body_nil (q : List UInt8) : body q [] = q := by simp [body, tail]
theorem body_cons (q p : List UInt8) (r : List (List UInt8)) : body q (p :: r) = q ++ 47 :: body p r := by simp [body, tail]
theorem count_body : ∀ (r : List (List UInt8)) (q : List UInt8), (47 : UInt8) ∉ q → (∀ p ∈ r, (47 : UInt8) ∉ p) → countByte (body q r) 47 = r.length
  | [], q, h, _ => by rw [body_nil]; exact List.count_eq_zero.2 h
  | p :: r, q, h, h2 => by
    have ih := count_body r p (h2 p (by simp)) (fun x hx => h2 x (by simp [hx]))
    rw [body_cons]
    unfold countByte at ih ⊢
    rw [List.count_append, List.count_cons_self, ih, List.count_eq_zero.2 h]
    simp
end TplLaw

namespace Go.Proofs.YtklcapmmogediaaGreatDoor
open Go.Ev Go.RowKit TplLaw

/-- A string of bytes. -/
def bl (l : List UInt8) : ByteArray := ⟨l.toArray⟩
def strV (l : List UInt8) : Value := .string (bl l)
theorem bl_list (l : List UInt8) : (bl l).data.toList = l := by simp [bl]
theorem bl_self (s : ByteArray) : bl s.data.toList = s := by
  obtain ⟨⟨l⟩⟩ := s
  rfl
theorem bl_size (l : List UInt8) : (bl l).size = l.length := by
  show (bl l).data.size = _
  simp [bl]
theorem bl_cut (l : List UInt8) (a b : Nat) (h : b ≤ l.length) : (bl l).extract a b = bl ((l.take b).drop a) := by
  rw [← bl_self ((bl l).extract a b)]
  congr 1
  have : ((bl l).extract a b).data.toList = ((bl l).data.extract a b).toList := by
    rw [ByteArray.data_extract]
  rw [this]
  simp [bl, List.extract_eq_take_drop, List.drop_take]
theorem bl_app (a b : List UInt8) : bl a ++ bl b = bl (a ++ b) := by
  rw [← bl_self (bl a ++ bl b)]
  congr 1
def isB (c : ByteArray) (b : Nat) : Bool := beqN (natsOf c) [b]
theorem isB_eq {c : ByteArray} {b : UInt8} (h : isB c b.toNat = true) : c = ⟨#[b]⟩ := natsOf_inj (beqN_eq h)
theorem wrap1 {i : Nat} (h : i ≤ 1000000) : IntKind.i64.wrap ((i : Int) + 1) = ((i + 1 : Nat) : Int) := by rw [wrap_id _ (by omega) (by omega)]; rfl
noncomputable def spIx (f : FuncId) (args : Array Value) (h : AH) : Option (Bool × Value × AH) :=
  cond (Nat.beq f 62) (match args with
    | ⟨[.string s, .string c]⟩ => some (isB c 47, .int .i64 (Lib.indexByte s.data.toList 47), h)
    | _ => none) none
theorem spIx_ok : SpOK spIx := by
  intro f args h v h' hs
  unfold spIx at hs
  obtain ⟨hf, hs2⟩ := cond_some hs
  clear hs
  have := Nat.eq_of_beq_eq_true hf
  subst this
  split at hs2
  · injection hs2 with hs
    injection hs with hb hs
    injection hs with hv hh
    subst hv hh
    rename_i s c
    have := isB_eq (b := 47) hb
    subst this
    exact ⟨flat_call (args := [.string s, .string ⟨#[47]⟩]) rfl rfl fun w => (Tryz.strings_Index_one s 47 w).mono fun e w' ⟨h1, h2⟩ => ⟨h1, h2 ▸ Below.refl _ _⟩, Nat.le_refl _⟩
  · cases hs2
noncomputable def spCn (f : FuncId) (args : Array Value) (h : AH) : Option (Bool × Value × AH) :=
  cond (Nat.beq f 61) (match args with
    | ⟨[.string s, .string c]⟩ => some (isB c 47, .int .i64 (Lib.countByte s.data.toList 47), h)
    | _ => none) none
theorem spCn_ok : SpOK spCn := by
  intro f args h v h' hs
  unfold spCn at hs
  obtain ⟨hf, hs2⟩ := cond_some hs
  clear hs
  have := Nat.eq_of_beq_eq_true hf
  subst this
  split at hs2
  · injection hs2 with hs
    injection hs with hb hs
    injection hs with hv hh
    subst hv hh
    rename_i s c
    have := isB_eq (b := 47) hb
    subst this
    exact ⟨flat_call (args := [.string s, .string ⟨#[47]⟩]) rfl rfl fun w => (Tryz.strings_Count_one s 47 w).mono fun e w' ⟨h1, h2⟩ => ⟨h1, h2 ▸ Below.refl _ _⟩, Nat.le_refl _⟩
  · cases hs2

/-! genSplit -/
noncomputable def SB2 : SC := ⟨idn, spOr spIx spCn, true, true⟩
theorem SB2_ok : SB2.cfg.OK Tryz.prog := (spIx_ok.or spCn_ok).cfg
def gH (cs : List Value) : AH := ⟨1, 1, [(0, .cells ⟨cs⟩ 9 (0, 0))]⟩
def ixS (s : ByteArray) : Int := Lib.indexByte s.data.toList 47
theorem gsr (s : ByteArray) (n i : Int) (m : Nat) (cs : List Value) (B : List Value → AH → Prop) (Q : AExit → List Value → AH → Prop) :
    once 0 Tryz.prog SB2 [] noHooks 600 66 [0, 1, 2, 3, 10, 9] [0] [0, 10, 9] [0] (oneLoop (codeOf Tryz.f38) 11) [.string s, .string ⟨#[47]⟩, .int .i64 0, .int .i64 n, .int .i64 i, .slice (some ⟨0, 0, none⟩) m m] (gH cs) B Q =
      bif decide (i < n) then bif decide (ixS s < 0) then NoNames (.cells ⟨cs⟩ 9 (0, 0)) ∧ Q (.exit 0) [.string s, .int .i64 i, .slice (some ⟨0, 0, none⟩) m m] (gH cs) else
        bif decide (0 ≤ IntKind.i64.wrap (ixS s + 0)) && decide (IntKind.i64.wrap (ixS s + 0) ≤ (s.size : Int)) then bif decide (0 ≤ i) && decide (i < (m : Int)) then bif (0 + i.toNat * 1 + 1).ble (Array.mk cs).size && true && true then
        bif decide (0 ≤ IntKind.i64.wrap (ixS s + 1)) && decide (IntKind.i64.wrap (ixS s + 1) ≤ (s.size : Int)) && decide ((s.size : Int) ≤ (s.size : Int)) then
          NoNames (.cells (putAll ⟨cs⟩ (0 + i.toNat * 1) [.string (s.extract 0 (IntKind.i64.wrap (ixS s + 0)).toNat)]) 9 (0, 0)) ∧
          B [.string (s.extract (IntKind.i64.wrap (ixS s + 1)).toNat s.size), .string ⟨#[47]⟩, .int .i64 0, .int .i64 n, .int .i64 (IntKind.i64.wrap (i + 1)), .slice (some ⟨0, 0, none⟩) m m] ⟨1, 1, [(0, .cells (putAll ⟨cs⟩ (0 + i.toNat * 1) [.string (s.extract 0 (IntKind.i64.wrap (ixS s + 0)).toNat)]) 9 (0, 0))]⟩
        else False else False else False else False
      else NoNames (.cells ⟨cs⟩ 9 (0, 0)) ∧ Q (.exit 0) [.string s, .int .i64 i, .slice (some ⟨0, 0, none⟩) m m] (gH cs) := by kernel_rfl
theorem nnS (D : List (List UInt8)) (t : TypeId) (fr : Nat × Nat) : NoNames (.cells ⟨D.map strV⟩ t fr) := by
  intro v hv
  obtain ⟨d, _, rfl⟩ := List.mem_map.1 (show v ∈ D.map strV from hv)
  rfl
theorem put_one {D : List (List UInt8)} {i : Nat} (q : List UInt8) (hi : i < D.length) : putAll ⟨D.map strV⟩ (0 + (i : Int).toNat * 1) [strV q] = ⟨(D.set i q).map strV⟩ := by
  rw [putAll_eq _ _ _ (by show 0 + (i : Int).toNat * 1 + 1 ≤ (D.map strV).length; rw [List.length_map]; omega)]
  show (⟨(D.map strV).take (0 + i * 1) ++ [strV q] ++ (D.map strV).drop (0 + i * 1 + 1)⟩ : Array Value) = _
  rw [Nat.zero_add, Nat.mul_one, List.map_set, List.set_eq_take_append_cons_drop, if_pos (by rw [List.length_map]; exact hi)]
  simp
theorem gs_loop {n : Nat} (hn : n ≤ 1000) : ∀ (r : List (List UInt8)) (q : List UInt8) (i : Nat) (D : List (List UInt8)), (47 : UInt8) ∉ q → (∀ p ∈ r, (47 : UInt8) ∉ p) → i + r.length = n → D.length = n + 1 → (body q r).length ≤ 100000 →
    ∃ (D' : List (List UInt8)) (q2 : List UInt8), D'.length = n + 1 ∧ D'.take n ++ [q2] = D.take i ++ q :: r ∧ ∀ K : AExit → List Value → AH → Prop,
      K (.exit 0) [strV q2, .int .i64 (n : Int), .slice (some ⟨0, 0, none⟩) (n + 1) (n + 1)] (gH (D'.map strV)) →
      iter 0 Tryz.prog SB2 [] noHooks 600 66 [0, 1, 2, 3, 10, 9] [0] [0, 10, 9] [0] (oneLoop (codeOf Tryz.f38) 11) (r.length + 1) [.string (bl (body q r)), .string ⟨#[47]⟩, .int .i64 0, .int .i64 (n : Int), .int .i64 (i : Int), .slice (some ⟨0, 0, none⟩) (n + 1) (n + 1)] (gH (D.map strV)) K
  | [], q, i, D, h1, h2, h3, h4, h5 => by
    have hi : i = n := by simpa using h3
    subst hi
    refine ⟨D, q, h4, rfl, fun K hK => ?_⟩
    rw [body_nil]
    exact (gsr _ _ _ _ _ _ K).mpr (pick_f (by simp) ⟨nnS D _ _, hK⟩)
  | p :: r, q, i, D, h1, h2, h3, h4, h5 => by
    have hb := body_cons q p r
    have hlen : (body q (p :: r)).length = q.length + 1 + (body p r).length := by rw [hb]; simp; omega
    have h3' : i + 1 + r.length = n := by rw [List.length_cons] at h3; omega
    obtain ⟨D', q2, y1, y2, y3⟩ := gs_loop hn r p (i + 1) (D.set i q) (h2 p (by simp)) (fun x hx => h2 x (by simp [hx])) h3' (by rw [List.length_set, h4]) (by omega)
    have hset : (D.set i q).take (i + 1) = D.take i ++ [q] := by
      rw [List.take_add_one, List.getElem?_set_self (by omega), List.take_set_of_le (Nat.le_refl _)]
      rfl
    refine ⟨D', q2, y1, by rw [y2, hset]; simp, fun K hK => ?_⟩
    have hix : ixS (bl (body q (p :: r))) = (q.length : Int) := by
      unfold ixS
      rw [bl_list, hb]
      exact idx_at _ h1
    have hsz := bl_size (body q (p :: r))
    have w0 : IntKind.i64.wrap ((q.length : Int) + 0) = (q.length : Int) := by rw [Int.add_zero]; exact wrap_id _ (by omega) (by omega)
    have w1 : IntKind.i64.wrap ((q.length : Int) + 1) = ((q.length + 1 : Nat) : Int) := wrap1 (by omega)
    have c1 : (bl (body q (p :: r))).extract 0 (q.length : Int).toNat = bl q := by
      show (bl (body q (p :: r))).extract 0 q.length = _
      rw [bl_cut _ _ _ (by omega), hb]
      simp
    have c2 : (bl (body q (p :: r))).extract ((q.length + 1 : Nat) : Int).toNat (bl (body q (p :: r))).size = bl (body p r) := by
      show (bl (body q (p :: r))).extract (q.length + 1) (bl (body q (p :: r))).size = _
      rw [hsz, bl_cut _ _ _ (Nat.le_refl _), List.take_length, hb]
      congr 1
      rw [List.drop_append, List.drop_of_length_le (by omega), List.nil_append, Nat.add_sub_cancel_left]
      rfl
    refine (gsr _ _ _ _ _ _ K).mpr ?_
    rw [hix, w0, w1, c1, c2]
    refine pick_t (decide_eq_true (by omega)) (pick_f (decide_eq_false (by omega)) (need_mk (by simp; omega) (need_mk (by simp; omega) (need_mk ?_ (need_mk (by simp; omega) ?_)))))
    · have : (0 + (i : Int).toNat * 1 + 1).ble (Array.mk (D.map strV)).size = true := by
        rw [Nat.ble_eq]
        show 0 + (i : Int).toNat * 1 + 1 ≤ (D.map strV).length
        rw [List.length_map]; omega
      rw [this]; rfl
    · have hp := put_one (D := D) (i := i) q (by omega)
      have hp : putAll ⟨D.map strV⟩ (0 + (i : Int).toNat * 1) [.string (bl q)] = ⟨(D.set i q).map strV⟩ := hp
      rw [hp, wrap1 (by omega)]
      exact ⟨nnS _ _ _, y3 K hK⟩
def sC : Array Value := #[.string ⟨#[]⟩]
noncomputable def nS (s : ByteArray) : Int := if IntKind.i64.wrap ((s.size : Int) + 1) < IntKind.i64.wrap ((Lib.countByte s.data.toList 47 : Int) + 1) then IntKind.i64.wrap ((s.size : Int) + 1) else IntKind.i64.wrap ((Lib.countByte s.data.toList 47 : Int) + 1)
noncomputable def gsE (s2 : ByteArray) (cs : List Value) (k m : Nat) (Q : Value → AH → Prop) : Prop :=
  bif decide ((k : Int) < (m : Int)) then bif (0 + k * 1 + 1).ble (Array.mk cs).size && true && true then bif decide (0 ≤ IntKind.i64.wrap ((k : Int) + 1)) && decide (IntKind.i64.wrap ((k : Int) + 1) ≤ (m : Int)) then
    bif Nat.beq 0 m then Q (.slice (some ⟨0, 0, none⟩) ((IntKind.i64.wrap ((k : Int) + 1)).toNat - 0) (m - 0)) ⟨1, 0, [(0, .cells (putAll ⟨cs⟩ (0 + k * 1) [.string s2]) 9 (1, 1))]⟩
    else Q (.slice (some ⟨0, 0, none⟩) ((IntKind.i64.wrap ((k : Int) + 1)).toNat - 0) (m - 0)) ⟨1, 0, [(0, .cells (putAll ⟨cs⟩ (0 + k * 1) [.string s2]) 9 (1, 1))]⟩
  else False else False else False
theorem gsf (s s2 : ByteArray) (m k : Nat) (cs : List Value) (C : List Value → AH → Prop) (Q : Value → AH → Prop) :
    tfn Tryz.prog SB2 [] (hook1 11 (thenLS (hookLS 0 66 [0, 1, 2, 3, 10, 9] [0] [0, 10, 9] (fun vals h K => C vals h ∧ K (.exit 0) [.string s2, .int .i64 (k : Int), .slice (some ⟨0, 0, none⟩) m m] (gH cs))) (markG 9))) 600 [] Tryz.f38 [.string s, .string ⟨#[47]⟩, .int .i64 0, .int .i64 (-1)] h0 Q =
      bif decide (0 ≤ nS s) && decide (nS s ≤ nS s) && decide (nS s ≤ 9223372036854775807) && ((nS s).toNat * 16).ble 140737488355328 && (((nS s).toNat * 1).beq 0 || true) then
        NoNames (.cells ⟨zlist sC ((nS s).toNat * 1)⟩ 9 (0, 0)) ∧ C [.string s, .string ⟨#[47]⟩, .int .i64 0, .int .i64 (IntKind.i64.wrap (nS s - 1)), .int .i64 0, .slice (some ⟨0, 0, none⟩) (nS s).toNat (nS s).toNat] (gH (zlist sC ((nS s).toNat * 1))) ∧ gsE s2 cs k m Q
      else False := by kernel_rfl
theorem zl_rep (n : Nat) : zlist sC n = (List.replicate n ([] : List UInt8)).map strV := by
  have e : (fun i => sC[i % sC.size]?.getD undef) = fun _ : Nat => strV [] := by
    funext i
    have : i % sC.size = 0 := Nat.mod_one i
    rw [this]
    rfl
  show (List.range n).map (fun i => sC[i % sC.size]?.getD undef) = _
  rw [e, List.map_const', List.length_range, List.map_replicate]
theorem oneGS : (loopAt (codeOf Tryz.f38) 11).length = 1 := by kernel_rfl
theorem someGS : Tryz.f38.body.isSome = true := by kernel_rfl
theorem strV_map (D : List (List UInt8)) : (D.map bl).map Value.string = D.map strV := by rw [List.map_map]; rfl
theorem freezeS {p : Nat} {P : Program} {h : AH} {b : Nat} {t : TypeId} {fr : Nat × Nat} (D : List (List UInt8)) {m : Nat} (hm : D.length = m) (hb : h.get b = some (.cells ⟨D.map strV⟩ t fr)) :
    Weak p P #[.slice (some ⟨b, 0, none⟩) m m] h #[fz ⟨D.map strV⟩] (h.del b) := by
  have := freeze1 (p := p) (P := P) (h := h) (b := b) (t := t) (fr := fr) (D.map bl) (m := m) (by rw [List.length_map, hm]) (by rw [strV_map]; exact hb)
  rw [strV_map] at this
  exact this
theorem gs_fn {q : List UInt8} {r : List (List UInt8)} (h1 : (47 : UInt8) ∉ q) (h2 : ∀ p ∈ r, (47 : UInt8) ∉ p) (h3 : r.length ≤ 1000) (h4 : (body q r).length ≤ 100000) :
    FnOK 0 Tryz.prog 38 ⟨[.string (bl (body q r)), .string ⟨#[47]⟩, .int .i64 0, .int .i64 (-1)]⟩ h0 (fun v _ => v = fz ⟨(q :: r).map strV⟩) := by
  obtain ⟨D, q2, y1, y2, y3⟩ := gs_loop (n := r.length) h3 r q 0 (List.replicate (r.length + 1) []) h1 h2 (by omega) (by simp) h4
  have hcnt : (Lib.countByte (bl (body q r)).data.toList 47 : Int) = (r.length : Int) := by rw [bl_list, count_body r q h1 h2]
  have hsz : (bl (body q r)).size = (body q r).length := bl_size _
  have hle : r.length ≤ (body q r).length := by
    have := count_body r q h1 h2
    unfold Lib.countByte at this
    rw [← this]
    exact List.count_le_length
  have hn : nS (bl (body q r)) = ((r.length + 1 : Nat) : Int) := by
    unfold nS
    rw [hcnt, hsz, wrap1 (i := r.length) (by omega), wrap1 (i := (body q r).length) (by omega)]
    split
    · omega
    · rfl
  have hz : zlist sC (((r.length + 1 : Nat) : Int).toNat * 1) = (List.replicate (r.length + 1) ([] : List UInt8)).map strV := by
    rw [Nat.mul_one]; exact zl_rep _
  have hw : IntKind.i64.wrap (((r.length + 1 : Nat) : Int) - 1) = (r.length : Int) := by rw [wrap_id _ (by omega) (by omega)]; omega
  have hsp : LSpec 0 Tryz.prog 66 (oneLoop (codeOf Tryz.f38) 11) (thenLS (hookLS 0 66 [0, 1, 2, 3, 10, 9] [0] [0, 10, 9] (fun vals h K => (vals = [.string (bl (body q r)), .string ⟨#[47]⟩, .int .i64 0, .int .i64 (r.length : Int), .int .i64 0, .slice (some ⟨0, 0, none⟩) (r.length + 1) (r.length + 1)] ∧ h = gH ((List.replicate (r.length + 1) ([] : List UInt8)).map strV)) ∧
      K (.exit 0) [.string (bl q2), .int .i64 (r.length : Int), .slice (some ⟨0, 0, none⟩) (r.length + 1) (r.length + 1)] (gH (D.map strV)))) (markG 9)) := by
    refine thenLS_ok (hook_ok (G := []) (L := noHooks) (f := 600) (sameX := [0]) SB2_ok mixed (by decide) (loops_none _ _ _ _) ?_) (markG_ok _ _ _ _)
    rintro vals h K ⟨⟨rfl, rfl⟩, hK⟩
    exact ⟨_, y3 K hK⟩
  refine FnOK.weak1 (FnOK.ttree SB2_ok mixed Tryz.func38 someGS (loops_one oneGS hsp) (gsf (bl (body q r)) (bl q2) (r.length + 1) r.length (D.map strV) _ _) ?_)
  rw [hn, hz, hw]
  refine need_mk ?_ ⟨nnS _ _ _, ⟨rfl, rfl⟩, ?_⟩
  · simp only [Bool.and_eq_true, decide_eq_true_eq, Nat.ble_eq, Bool.or_true]
    refine ⟨⟨⟨⟨?_, ?_⟩, ?_⟩, ?_⟩, trivial⟩ <;> omega
  · have w2 := wrap1 (i := r.length) (by omega)
    unfold gsE
    rw [w2]
    have hpo := put_one (D := D) (i := r.length) q2 (by omega)
    have hpo : putAll ⟨D.map strV⟩ (0 + r.length * 1) [.string (bl q2)] = ⟨(D.set r.length q2).map strV⟩ := hpo
    rw [hpo]
    have hD : D.set r.length q2 = q :: r := by
      rw [List.set_eq_take_append_cons_drop, if_pos (by omega), List.drop_of_length_le (by omega), y2]
      simp
    have fin : ∃ v2 g2, Weak 0 Tryz.prog #[.slice (some ⟨0, 0, none⟩) (r.length + 1) (r.length + 1)] ⟨1, 0, [(0, .cells ⟨(D.set r.length q2).map strV⟩ 9 (1, 1))]⟩ #[v2] g2 ∧ v2 = fz ⟨(q :: r).map strV⟩ :=
      ⟨_, _, freezeS (h := ⟨1, 0, [(0, .cells ⟨(D.set r.length q2).map strV⟩ 9 (1, 1))]⟩) (b := 0) (t := 9) (fr := (1, 1)) (D.set r.length q2) (by rw [List.length_set, y1]) rfl, by rw [hD]⟩
    refine need_mk (decide_eq_true (by omega)) (need_mk ?_ (need_mk (by simp; omega) ?_))
    · have : (0 + r.length * 1 + 1).ble (Array.mk (D.map strV)).size = true := by
        rw [Nat.ble_eq]
        show 0 + r.length * 1 + 1 ≤ (D.map strV).length
        rw [List.length_map]; omega
      rw [this]; rfl
    · cases Nat.beq 0 (r.length + 1) <;> exact fin
end Go.Proofs.YtklcapmmogediaaGreatDoor
