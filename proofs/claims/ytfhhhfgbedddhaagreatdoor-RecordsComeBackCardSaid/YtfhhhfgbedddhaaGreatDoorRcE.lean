/-
  Records as lines: 'Text'; numbers that are read.
-/
import Derived.Test.YtfhhhfgbedddhaaGreatDoorRcD
import Derived.Laws.Strings
namespace Go.Proofs.YtfhhhfgbedddhaaGreatDoor
open Go.Ev Go.RowKit RecLaw

theorem bl_toList (l : List UInt8) : (bl l).toList = l := by rw [Go.ByteArray.toList_eq, bl_list]
theorem oneB (l : List UInt8) : (l.map byV).all oneCell = true := by
  rw [List.all_eq_true]
  intro v hv
  obtain ⟨b, _, rfl⟩ := List.mem_map.1 hv
  rfl
theorem byteB (l : List UInt8) : (l.map byV).all isByte = true := by
  rw [List.all_eq_true]
  intro v hv
  obtain ⟨b, _, rfl⟩ := List.mem_map.1 hv
  unfold byV isByte
  have := b.toNat_lt
  simp
  omega
theorem toB (l : List UInt8) : (l.map byV).map toByte = l := by
  rw [List.map_map]
  have : toByte ∘ byV = id := by
    funext b
    show UInt8.ofNat ((b.toNat : Int).toNat) = b
    simp
  rw [this, List.map_id]
theorem wr0_ok {l : List UInt8} {K : List Value → Nat → Prop} (h0 : l ≠ []) (h1 : l.length ≤ 1000) (hK : K (l.map byV) l.length) : wr0 (bl l) K := by
  unfold wr0
  have hp : 0 < l.length := List.length_pos_iff.2 h0
  rw [bl_size, bl_list]
  refine pick_f ?_ (need_mk ?_ hK)
  · rw [Bool.eq_false_iff, ne_eq, Nat.ble_eq]; omega
  · rw [Bool.and_eq_true, Nat.ble_eq, Nat.ble_eq]; omega
theorem wrT_ok {b l : List UInt8} {K : List Value → Nat → Prop} (h0 : l ≠ []) (h1 : l.length ≤ 1000) (h2 : b.length ≤ 10000) (hK : K ((b ++ l).map byV) (b ++ l).length) : wrT (b.map byV) b.length (bl l) K := by
  unfold wrT
  have hp : 0 < l.length := List.length_pos_iff.2 h0
  rw [bl_size, bl_list]
  refine pick_f ?_ (need_mk ?_ (need_mk ?_ ?_))
  · rw [Bool.eq_false_iff, ne_eq, Nat.ble_eq]; omega
  · rw [Bool.and_eq_true, Nat.ble_eq, Nat.ble_eq]; omega
  · rw [oneB]
    have : (0 + b.length * 1).ble (Array.mk (b.map byV)).size = true := by
      rw [Nat.ble_eq]
      show 0 + b.length * 1 ≤ (b.map byV).length
      rw [List.length_map]; omega
    rw [this]; rfl
  · have e : List.take (b.length * 1) (List.drop 0 (Array.mk (b.map byV)).toList) = b.map byV := by
      rw [List.drop_zero, Nat.mul_one]
      exact List.take_of_length_le (by show (b.map byV).length ≤ _; rw [List.length_map]; exact Nat.le_refl _)
    rw [e, ← List.map_append, ← List.length_append]
    exact hK
theorem enT_ok {b : List UInt8} {Q : Value → Prop} (h0 : b ≠ []) (h1 : b.length ≤ 10000) (hQ : Q (.tuple ⟨[.string (bl b), .int .i64 0]⟩)) : enT (b.map byV) b.length Q := by
  unfold enT
  have hp : 0 < b.length := List.length_pos_iff.2 h0
  have e : List.take (b.length : Int).toNat (List.drop 0 (Array.mk (b.map byV)).toList) = b.map byV := by
    rw [List.drop_zero]
    exact List.take_of_length_le (by show (b.map byV).length ≤ _; rw [List.length_map]; exact Nat.le_refl _)
  rw [e, byteB, toB]
  refine pick_f (decide_eq_false (by omega)) (need_mk (Nat.ble_eq_true_of_le (by omega)) (need_mk ?_ hQ))
  have : (0 + (b.length : Int).toNat).ble (Array.mk (b.map byV)).size = true := by
    rw [Nat.ble_eq]
    show 0 + b.length ≤ (b.map byV).length
    rw [List.length_map]; omega
  rw [this]
  simp
  omega
/-! Text -/
theorem nnB (l : List UInt8) (t : TypeId) (fr : Nat × Nat) : NoNames (.cells ⟨l.map byV⟩ t fr) := by
  intro v hv
  obtain ⟨b, _, rfl⟩ := List.mem_map.1 (show v ∈ l.map byV from hv)
  rfl
def tS : List UInt8 → AH
  | [] => tN
  | b :: l => tH ((b :: l).map byV) (b :: l).length
theorem tS_ne {l : List UInt8} (h : l ≠ []) : tS l = tH (l.map byV) l.length := by
  cases l with
  | nil => exact absurd rfl h
  | cons b l => rfl
theorem okL_Rd {L : List Rc} (hL : Ln L) (h : okL L) {i : Nat} (hi : i < L.length) : Rd (L.getD i rc0) := ⟨hL.2 _ (get_mem hi), (h i hi).1⟩
theorem okL_all {L : List Rc} (hL : Ln L) (h : okL L) : ∀ r ∈ L, Rd r := by
  intro r hr
  obtain ⟨i, hi, rfl⟩ := List.getElem_of_mem hr
  have := okL_Rd hL h hi
  simp only [List.getD, List.getElem?_eq_getElem hi, Option.getD_some] at this
  exact this
theorem okRc_rd {r : Rc} (h : Rd r) : okRc ⟨rcC r⟩ = true := okRc_iff.2 ⟨r, h, rfl⟩
theorem drop_text {L : List Rc} {i : Nat} (hi : i < L.length) : text (L.drop i) = (line (L.getD i rc0) ++ [10]) ++ text (L.drop (i + 1)) := by
  have : L.drop i = L.getD i rc0 :: L.drop (i + 1) := by
    rw [List.drop_eq_getElem_cons hi]
    simp [List.getD, hi]
  rw [this, text_cons]
  simp
theorem tx_it (n : Nat) {vals : List Value} {h : AH} {K : AExit → List Value → AH → Prop} (hx : once 0 Tryz.prog ST1 [] noHooks 600 26 [5, 13, 14, 15] [1] [5] [1] (oneLoop (codeOf Tryz.f6) 6) vals h (fun v g => iter 0 Tryz.prog ST1 [] noHooks 600 26 [5, 13, 14, 15] [1] [5] [1] (oneLoop (codeOf Tryz.f6) 6) n v g K) K) : iter 0 Tryz.prog ST1 [] noHooks 600 26 [5, 13, 14, 15] [1] [5] [1] (oneLoop (codeOf Tryz.f6) 6) (n + 1) vals h K := hx
set_option maxRecDepth 20000 in
theorem tx_loop {L : List Rc} (hL : Ln L) (h : okL L) (K : AExit → List Value → AH → Prop) : ∀ (r i : Nat) (O : List UInt8), i + r = L.length → O.length ≤ i * 113 → K (.exit 0) [.pointer (some ⟨0, 0, none⟩)] (tS (O ++ text (L.drop i))) → iter 0 Tryz.prog ST1 [] noHooks 600 26 [5, 13, 14, 15] [1] [5] [1] (oneLoop (codeOf Tryz.f6) 6) (r + 1) (tv L (i : Int)) (tS O) K
  | 0, i, O, h1, h2, hK => by
    have : i = L.length := by omega
    subst this
    rw [List.drop_length, show text [] = [] from rfl, List.append_nil] at hK
    refine tx_it 0 ?_
    cases O with
    | nil => exact (txEN _ K L hL.1).mpr hK
    | cons b l => exact (txEB _ _ _ K L hL.1).mpr ⟨nnB (b :: l) _ _, hK⟩
  | r + 1, i, O, h1, h2, hK => by
    have hi : i < L.length := by omega
    have h5 := hL.1
    have hr := okL_Rd hL h hi
    have hl := line_len hr
    have hln : line (L.getD i rc0) ++ [10] ≠ [] := by simp
    have hl2 : (line (L.getD i rc0) ++ [10]).length ≤ 113 := by
      rw [List.length_append]
      exact Nat.succ_le_succ hl
    rw [drop_text hi, ← List.append_assoc] at hK
    have ih := tx_loop hL h K r (i + 1) (O ++ (line (L.getD i rc0) ++ [10])) (by omega) (by rw [List.length_append, Nat.succ_mul]; exact Nat.add_le_add h2 hl2) hK
    refine tx_it (r + 1) ?_
    cases O with
    | nil =>
      refine (txrN _ K L i hL.1 hi).mpr (need_mk (okRc_rd hr) ?_)
      rw [rtS_rc]
      refine wr0_ok hln (by omega) ⟨nnB _ _ _, ?_⟩
      rw [List.nil_append, tS_ne hln] at ih
      exact ih
    | cons b l =>
      refine (txrB _ _ _ K L i hL.1 hi).mpr (need_mk (okRc_rd hr) ?_)
      rw [rtS_rc]
      refine wrT_ok (b := b :: l) hln (by omega) (by omega) ⟨nnB _ _ _, ?_⟩
      rw [tS_ne (by simp)] at ih
      exact ih
theorem oneTX : (loopAt (codeOf Tryz.f6) 6).length = 1 := by kernel_rfl
theorem someTX : Tryz.f6.body.isSome = true := by kernel_rfl
def unL (vs : List Value) : List Rc := vs.map fun v => unR v.cells
theorem unL_map (L : List Rc) : unL (L.map rcV) = L := by
  unfold unL
  rw [List.map_map]
  have : (fun v => unR (Value.cells v)) ∘ rcV = id := by
    funext r
    exact unR_rc r
  rw [this, List.map_id]
noncomputable def txS (vs : List Value) : ByteArray := bif ckC vs != 0 then ⟨#[]⟩ else bl (text (unL vs))
theorem tx_fn {vs : List Value} (hv : okV vs = true) : FnOK 0 Tryz.prog 6 ⟨[fz ⟨vs⟩]⟩ h0 (fun v _ => v = .tuple ⟨[.string (txS vs), .int .i64 (ckC vs)]⟩) := by
  obtain ⟨L, hL, rfl⟩ := okV_iff.1 hv
  have hck := (ckC_ok hv).2 L hL rfl
  have hz : ((Array.mk (L.map rcV)).size : Int) = (L.length : Int) := by simp
  have hno : ∀ vals h (K : AExit → List Value → AH → Prop), (False ∧ K (.exit 0) [.pointer (some ⟨0, 0, none⟩)] tN) → ∃ R, iter 0 Tryz.prog ST1 [] noHooks 600 26 [5, 13, 14, 15] [1] [5] [1] (oneLoop (codeOf Tryz.f6) 6) R vals h K := fun _ _ _ q => q.1.elim
  by_cases he : ckC (L.map rcV) = 0
  · have h := hck.1 he
    have hS : txS (L.map rcV) = bl (text L) := by unfold txS; rw [he, unL_map]; rfl
    have hlt := text_len (okL_all hL h)
    have h5 := hL.1
    rw [hS, he]
    have main := tx_loop hL h
    cases hT : text L with
    | nil =>
      have hsp : LSpec 0 Tryz.prog 26 (oneLoop (codeOf Tryz.f6) 6) (hookLS 0 26 [5, 13, 14, 15] [1] [5] (fun vals h K => (vals = tv L 0 ∧ h = tN) ∧ K (.exit 0) [.pointer (some ⟨0, 0, none⟩)] tN)) := by
        refine hook_ok (G := []) (L := noHooks) (f := 600) (sameX := [1]) ST1_ok mixed (by decide) (loops_none _ _ _ _) ?_
        rintro vals h K ⟨⟨rfl, rfl⟩, hK⟩
        exact ⟨_, main K L.length 0 [] (by omega) (by simp) (by rw [List.nil_append, List.drop_zero, hT]; exact hK)⟩
      refine FnOK.ttree ST2_ok mixed Tryz.func6 someTX (loops_one oneTX hsp) (txfN (L.map rcV) _ (fun v => v = .tuple ⟨[.string ⟨#[]⟩, .int .i64 0]⟩)) ?_
      refine need_mk hv (pick_f (by rw [he]; rfl) ⟨⟨by rw [hz]; rfl, rfl⟩, rfl⟩)
    | cons b l =>
      rw [hT] at hlt
      have hsp : LSpec 0 Tryz.prog 26 (oneLoop (codeOf Tryz.f6) 6) (hookLS 0 26 [5, 13, 14, 15] [1] [5] (fun vals h K => (vals = tv L 0 ∧ h = tN) ∧ K (.exit 0) [.pointer (some ⟨0, 0, none⟩)] (tH ((b :: l).map byV) (b :: l).length))) := by
        refine hook_ok (G := []) (L := noHooks) (f := 600) (sameX := [1]) ST1_ok mixed (by decide) (loops_none _ _ _ _) ?_
        rintro vals h K ⟨⟨rfl, rfl⟩, hK⟩
        exact ⟨_, main K L.length 0 [] (by omega) (by simp) (by rw [List.nil_append, List.drop_zero, hT]; exact hK)⟩
      refine FnOK.ttree ST2_ok mixed Tryz.func6 someTX (loops_one oneTX hsp) (txfB (L.map rcV) _ _ _ (fun v => v = .tuple ⟨[.string (bl (b :: l)), .int .i64 0]⟩)) ?_
      refine need_mk hv (pick_f (by rw [he]; rfl) ⟨⟨by rw [hz]; rfl, rfl⟩, enT_ok (b := b :: l) (by simp) (by omega) rfl⟩)
  · have hb : (ckC (L.map rcV) != 0) = true := bne_iff_ne.2 he
    have hS : txS (L.map rcV) = ⟨#[]⟩ := by unfold txS; rw [hb]; rfl
    rw [hS]
    have hsp : LSpec 0 Tryz.prog 26 (oneLoop (codeOf Tryz.f6) 6) (hookLS 0 26 [5, 13, 14, 15] [1] [5] (fun vals h K => False ∧ K (.exit 0) [.pointer (some ⟨0, 0, none⟩)] tN)) :=
      hook_ok (G := []) (L := noHooks) (f := 600) (sameX := [1]) ST1_ok mixed (by decide) (loops_none _ _ _ _) hno
    exact FnOK.ttree ST2_ok mixed Tryz.func6 someTX (loops_one oneTX hsp) (txfN (L.map rcV) (fun _ _ => False) (fun v => v = .tuple ⟨[.string ⟨#[]⟩, .int .i64 (ckC (L.map rcV))]⟩)) (need_mk hv (pick_t hb rfl))
noncomputable def spTx (f : FuncId) (args : Array Value) (h : AH) : Option (Bool × Value × AH) :=
  cond (Nat.beq f 6) (match args with
    | ⟨[.func (.yield 0) ⟨vs⟩ ⟨[]⟩]⟩ => some (okV vs, .tuple ⟨[.string (txS vs), .int .i64 (ckC vs)]⟩, h)
    | _ => none) none
theorem spTx_ok : SpOK spTx := by
  intro f args h v h' hs
  unfold spTx at hs
  obtain ⟨hf, hs2⟩ := cond_some hs
  clear hs
  have := Nat.eq_of_beq_eq_true hf
  subst this
  split at hs2
  · injection hs2 with hs
    injection hs with hb hs
    injection hs with hv hh
    subst hv hh
    rename_i vs
    exact ⟨FnOK.pure (tx_fn hb) rfl rfl h, Nat.le_refl _⟩
  · cases hs2

/-! Number -/
noncomputable def SN1 : SC := ⟨idn, spAt, true, true⟩
theorem SN1_ok : SN1.cfg.OK Tryz.prog := spAt_ok.cfg
noncomputable def b0 (d : ByteArray) (i : Int) : Int := ((d.data.toList.getD i.toNat 0).toNat : Int)
theorem nur (s d : ByteArray) (i : Int) (B : List Value → AH → Prop) (Q : AExit → List Value → AH → Prop) : once 0 Tryz.prog SN1 [] noHooks 600 53 [0, 6, 7] [] [4, 5, 0] [] (oneLoop (codeOf Tryz.f40) 5) [.string s, .string d, .int .i64 i] h0 B Q =
    bif decide (i < (d.size : Int)) then bif decide (0 ≤ i) && decide (i < (d.size : Int)) then bif decide (b0 d i < 48) then Q .ret [.int .i64 0, .bool false, .string s] h0 else
      bif decide (0 ≤ i) && decide (i < (d.size : Int)) then bif decide (b0 d i > 57) then Q .ret [.int .i64 0, .bool false, .string s] h0 else B [.string s, .string d, .int .i64 (IntKind.i64.wrap (i + 1))] h0 else False else False
    else Q (.exit 0) [anyV, anyV, .string s] h0 := by kernel_rfl
noncomputable def ndT (s d s2 : ByteArray) (C : List Value → AH → Prop) (Q : Value → Prop) : Prop :=
  bif d.toList == (ByteArray.mk #[]).toList then Q (.tuple ⟨[.int .i64 0, .bool false]⟩) else bif decide ((d.size : Int) > 15) then Q (.tuple ⟨[.int .i64 0, .bool false]⟩) else
  bif decide (0 < (d.size : Int)) then bif b0 d 0 == 48 then bif !(s.toList == (ByteArray.mk #[48]).toList) then Q (.tuple ⟨[.int .i64 0, .bool false]⟩) else
    C [.string s, .string d, .int .i64 0] h0 ∧ bif okNu s2 then Q (.tuple ⟨[.int .i64 (nuC s2), .bool true]⟩) else False
  else C [.string s, .string d, .int .i64 0] h0 ∧ bif okNu s2 then Q (.tuple ⟨[.int .i64 (nuC s2), .bool true]⟩) else False else False
theorem nuf (s s2 : ByteArray) (C : List Value → AH → Prop) (Q : Value → Prop) :
    tfn Tryz.prog SN1 [] (hook1 5 (hookLS 0 53 [0, 6, 7] [] [4, 5, 0] (fun vals h K => C vals h ∧ K (.exit 0) [anyV, anyV, .string s2] h0))) 600 [] Tryz.f40 [.string s, .int .i64 15] h0 (fun v _ => Q v) =
      bif decide ((s.size : Int) ≥ 1) then bif decide (1 ≤ (s.size : Int)) then bif (s.extract 0 1).toList == (ByteArray.mk #[45]).toList then
        bif decide (1 ≤ (s.size : Int)) && decide ((s.size : Int) ≤ (s.size : Int)) then ndT s (s.extract 1 (s.size : Int).toNat) s2 C Q else False
      else ndT s s s2 C Q else False else ndT s s s2 C Q := by kernel_rfl
theorem nu_it (n : Nat) {vals : List Value} {h : AH} {K : AExit → List Value → AH → Prop} (hx : once 0 Tryz.prog SN1 [] noHooks 600 53 [0, 6, 7] [] [4, 5, 0] [] (oneLoop (codeOf Tryz.f40) 5) vals h (fun v g => iter 0 Tryz.prog SN1 [] noHooks 600 53 [0, 6, 7] [] [4, 5, 0] [] (oneLoop (codeOf Tryz.f40) 5) n v g K) K) : iter 0 Tryz.prog SN1 [] noHooks 600 53 [0, 6, 7] [] [4, 5, 0] [] (oneLoop (codeOf Tryz.f40) 5) (n + 1) vals h K := hx
theorem b0_dig {d : List UInt8} (hd : ∀ b ∈ d, 48 ≤ b.toNat ∧ b.toNat ≤ 57) {i : Nat} (hi : i < d.length) : 48 ≤ b0 (bl d) (i : Int) ∧ b0 (bl d) (i : Int) ≤ 57 := by
  have h1 : b0 (bl d) (i : Int) = ((d[i].toNat : Nat) : Int) := by
    unfold b0
    rw [bl_list]
    show (((d.getD i 0).toNat : Nat) : Int) = _
    simp [List.getD, hi]
  have := hd d[i] (List.getElem_mem hi)
  omega
set_option maxRecDepth 20000 in
theorem nu_loop {d : List UInt8} (hd : ∀ b ∈ d, 48 ≤ b.toNat ∧ b.toNat ≤ 57) (hl : d.length ≤ 1000) (s : ByteArray) (K : AExit → List Value → AH → Prop) (hK : K (.exit 0) [anyV, anyV, .string s] h0) : ∀ (r i : Nat), i + r = d.length → iter 0 Tryz.prog SN1 [] noHooks 600 53 [0, 6, 7] [] [4, 5, 0] [] (oneLoop (codeOf Tryz.f40) 5) (r + 1) [.string s, .string (bl d), .int .i64 (i : Int)] h0 K
  | 0, i, h1 => by
    refine nu_it 0 ((nur _ _ _ _ K).mpr (pick_f (decide_eq_false ?_) hK))
    rw [bl_size]; omega
  | r + 1, i, h1 => by
    have ih := nu_loop hd hl s K hK r (i + 1) (by omega)
    have hb := b0_dig hd (i := i) (by omega)
    have c : (decide (0 ≤ (i : Int)) && decide ((i : Int) < ((bl d).size : Int))) = true := by rw [bl_size]; simp; omega
    refine nu_it (r + 1) ((nur _ _ _ _ K).mpr (pick_t (decide_eq_true (by rw [bl_size]; omega)) (need_mk c (pick_f (decide_eq_false (by omega)) (need_mk c (pick_f (decide_eq_false (by omega)) ?_))))))
    rw [wrap1 (by omega)]
    exact ih
theorem oneNU : (loopAt (codeOf Tryz.f40) 5).length = 1 := by kernel_rfl
theorem someNU : Tryz.f40.body.isSome = true := by kernel_rfl
theorem nd_ok {u : Nat} (hl : (Lib.decDigits u).length ≤ 15) {C : List Value → AH → Prop} {Q : Value → Prop} (hC : C [.string (bl (Lib.decDigits u)), .string (bl (Lib.decDigits u)), .int .i64 0] h0) (hQ : Q (.tuple ⟨[.int .i64 (u : Int), .bool true]⟩)) :
    ndT (bl (Lib.decDigits u)) (bl (Lib.decDigits u)) (bl (Lib.decDigits u)) C Q := by
  have hne := dd_ne u
  have hp : 0 < (Lib.decDigits u).length := List.length_pos_iff.2 hne
  have fin : C [.string (bl (Lib.decDigits u)), .string (bl (Lib.decDigits u)), .int .i64 0] h0 ∧ bif okNu (bl (Lib.decDigits u)) then Q (.tuple ⟨[.int .i64 (nuC (bl (Lib.decDigits u))), .bool true]⟩) else False :=
    ⟨hC, need_mk (okNu_iff.2 ⟨u, rfl, by rw [bl_size]; exact hl⟩) (by rw [nuC_bl]; exact hQ)⟩
  unfold ndT
  rw [bl_toList, bl_size]
  refine pick_f (by rw [show (ByteArray.mk #[]).toList = [] from by decide +kernel]; exact beq_eq_false_iff_ne.2 hne) (pick_f (decide_eq_false (by omega)) (need_mk (decide_eq_true (by omega)) ?_))
  cases hb : (b0 (bl (Lib.decDigits u)) 0 == 48) with
  | false => exact fin
  | true =>
    refine pick_t rfl (pick_f ?_ fin)
    have hu : u = 0 := by
      refine Classical.byContradiction fun q => dd_head u (by omega) ?_
      have hb := eq_of_beq hb
      unfold b0 at hb
      rw [bl_list] at hb
      cases hd : Lib.decDigits u with
      | nil => exact absurd hd hne
      | cons x l =>
        rw [hd] at hb
        have hb : ((x.toNat : Nat) : Int) = 48 := hb
        have : x = 48 := UInt8.toNat_inj.1 (by show x.toNat = 48; omega)
        rw [this]; rfl
    subst hu
    rw [Lib.decDigits_one (by decide)]
    exact (by decide +kernel : (!((([UInt8.ofNat (48 + 0)] : List UInt8)) == (ByteArray.mk #[48]).toList)) = false)
theorem nu_fn {s : ByteArray} (h : okNu s = true) : FnOK 0 Tryz.prog 40 ⟨[.string s, .int .i64 15]⟩ h0 (fun v _ => v = .tuple ⟨[.int .i64 (nuC s), .bool true]⟩) := by
  obtain ⟨u, rfl, hl⟩ := okNu_iff.1 h
  rw [nuC_bl]
  rw [bl_size] at hl
  have hne := dd_ne u
  have hp : 0 < (Lib.decDigits u).length := List.length_pos_iff.2 hne
  have hsp : LSpec 0 Tryz.prog 53 (oneLoop (codeOf Tryz.f40) 5) (hookLS 0 53 [0, 6, 7] [] [4, 5, 0] (fun vals h K => (vals = [.string (bl (Lib.decDigits u)), .string (bl (Lib.decDigits u)), .int .i64 0] ∧ h = h0) ∧ K (.exit 0) [anyV, anyV, .string (bl (Lib.decDigits u))] h0)) := by
    refine hook_ok (G := []) (L := noHooks) (f := 600) (sameX := []) SN1_ok mixed (by decide) (loops_none _ _ _ _) ?_
    rintro vals h K ⟨⟨rfl, rfl⟩, hK⟩
    exact ⟨_, nu_loop (dd_digits u) (by omega) _ K hK (Lib.decDigits u).length 0 (by omega)⟩
  refine FnOK.ttree SN1_ok mixed Tryz.func40 someNU (loops_one oneNU hsp) (nuf (bl (Lib.decDigits u)) (bl (Lib.decDigits u)) _ (fun v => v = .tuple ⟨[.int .i64 (u : Int), .bool true]⟩)) ?_
  have hsz := bl_size (Lib.decDigits u)
  refine pick_t (decide_eq_true (by omega)) (need_mk (decide_eq_true (by omega)) (pick_f ?_ (nd_ok hl ⟨rfl, rfl⟩ rfl)))
  rw [bl_cut (Lib.decDigits u) 0 1 (by omega), bl_toList]
  cases hd : Lib.decDigits u with
  | nil => exact absurd hd hne
  | cons x l =>
    have hx := dd_digits u x (by rw [hd]; simp)
    have : (ByteArray.mk #[45]).toList = [45] := by decide +kernel
    rw [this]
    refine beq_eq_false_iff_ne.2 fun q => ?_
    simp at q
    rw [q] at hx
    exact absurd hx.1 (by decide)
noncomputable def spNu (f : FuncId) (args : Array Value) (h : AH) : Option (Bool × Value × AH) :=
  cond (Nat.beq f 40) (match args with
    | ⟨[.string s, .int .i64 m]⟩ => some (okNu s && decide (m = 15), .tuple ⟨[.int .i64 (nuC s), .bool true]⟩, h)
    | _ => none) none
theorem spNu_ok : SpOK spNu := by
  intro f args h v h' hs
  unfold spNu at hs
  obtain ⟨hf, hs2⟩ := cond_some hs
  clear hs
  have := Nat.eq_of_beq_eq_true hf
  subst this
  split at hs2
  · injection hs2 with hs
    injection hs with hb hs
    injection hs with hv hh
    subst hv hh
    rename_i s m
    simp only [Bool.and_eq_true, decide_eq_true_eq] at hb
    obtain ⟨hb, rfl⟩ := hb
    exact ⟨FnOK.pure (nu_fn hb) rfl rfl h, Nat.le_refl _⟩
  · cases hs2
end Go.Proofs.YtfhhhfgbedddhaaGreatDoor
