/-
  Paths: segments and what stands for them, at seven words; JoinPath as a specification.
-/
import Derived.Test.YtfjfdemnnhfmoaaGreatDoorPsD

/-! Plain laws for PathsStay: seven words as segments; what was joined is normal, and is taken apart again. -/
namespace PathLaw
open RecLaw Go.Lib
def wds : List (List UInt8) := [[97], [98, 32, 99], [97, 47, 98], [120, 59, 121], [195, 169], [37, 52, 49], [46, 46, 46]]
def keep (c : UInt8) : Bool := freeB c || [33, 36, 38, 39, 40, 41, 42, 43, 44, 59, 61, 58, 64].contains c
def segB (w : List UInt8) : List UInt8 := w.flatMap fun c => if keep c then [c] else pctB c
def segs : List (List UInt8) := wds.map segB
def decB (s : List UInt8) : List UInt8 := (wds.find? fun w => segB w == s).getD []
theorem seg_ok : ∀ w ∈ wds, decB (segB w) = w ∧ nm (segB w) = true ∧ (47 : UInt8) ∉ segB w ∧ segB w ≠ [46] ∧ segB w ≠ [46, 46] ∧ (segB w).length ≤ 6 ∧ (segB w).all inkB = true ∧ w ≠ [46] ∧ w ≠ [46, 46] ∧ w.length ≤ 6 := by decide +kernel
def txt (L : List (List UInt8)) : List UInt8 := L.flatMap fun w => 47 :: segB w
theorem txt_cons (w : List UInt8) (L : List (List UInt8)) : txt (w :: L) = 47 :: body 47 (segB w) (L.map segB) := by
  unfold txt body tail
  rw [List.flatMap_cons, List.flatMap_map]
  rfl
theorem txt_len : ∀ {L : List (List UInt8)}, (∀ w ∈ L, w ∈ wds) → (txt L).length ≤ 7 * L.length
  | [], _ => Nat.le_refl _
  | w :: L, h => by
    have h1 := txt_len (L := L) fun x hx => h x (by simp [hx])
    have h2 := (seg_ok w (h w (by simp))).2.2.2.2.2.1
    have e : txt (w :: L) = (47 :: segB w) ++ txt L := rfl
    rw [e]
    simp
    omega
theorem txt_ink : ∀ {L : List (List UInt8)}, (∀ w ∈ L, w ∈ wds) → ∀ c ∈ txt L, inkB c = true
  | [], _ => fun c hc => by cases hc
  | w :: L, h => by
    have e : txt (w :: L) = (47 :: segB w) ++ txt L := rfl
    rw [e]
    refine ma (mc (by decide) ?_) (txt_ink fun x hx => h x (by simp [hx]))
    have := (seg_ok w (h w (by simp))).2.2.2.2.2.2.1
    exact fun c hc => List.all_eq_true.1 this c hc
theorem txt_ok {L : List (List UInt8)} (h : ∀ w ∈ L, w ∈ wds) (h1 : L ≠ []) (h4 : L.length ≤ 4) : Nrm (txt L) ∧ okP (txt L) = true ∧ spl 47 (txt L).tail = L.map segB := by
  have hl := txt_len h
  have hk := txt_ink h
  cases L with
  | nil => exact absurd rfl h1
  | cons w L =>
    have e := txt_cons w L
    have hp : ∀ p ∈ segB w :: L.map segB, (47 : UInt8) ∉ p ∧ nm p = true ∧ p ≠ [46] ∧ p ≠ [46, 46] := by
      refine mc ?_ fun p hp => ?_
      · obtain ⟨_, a, b, c, d, _⟩ := seg_ok w (h w (by simp))
        exact ⟨b, a, c, d⟩
      · obtain ⟨x, hx, rfl⟩ := List.mem_map.1 hp
        obtain ⟨_, a, b, c, d, _⟩ := seg_ok x (h x (by simp [hx]))
        exact ⟨b, a, c, d⟩
    have ho : okP (txt (w :: L)) = true := okP_iff.2 ⟨by simp at h4; simp at hl; omega, by rw [e]; rfl, hk⟩
    refine ⟨⟨_, _, e, hp, ho⟩, ho, ?_⟩
    rw [e]
    exact spl_body 47 _ _ _ (hp _ (by simp)).1 (fun p hq => (hp p (by simp [hq])).1) rfl
theorem dec_map : ∀ {L : List (List UInt8)}, (∀ w ∈ L, w ∈ wds) → (L.map segB).map decB = L
  | [], _ => rfl
  | w :: L, h => by
    rw [List.map_cons, List.map_cons, dec_map fun x hx => h x (by simp [hx]), (seg_ok w (h w (by simp))).1]
/-- The words that a text has. -/
def wordsOf (s : List UInt8) : List (List UInt8) := (spl 47 s.tail).map decB
theorem words_of {L : List (List UInt8)} (h : ∀ w ∈ L, w ∈ wds) (h1 : L ≠ []) (h4 : L.length ≤ 4) : wordsOf (txt L) = L := by
  unfold wordsOf
  rw [(txt_ok h h1 h4).2.2, dec_map h]
end PathLaw

namespace Go.Proofs.YtfjfdemnnhfmoaaGreatDoor
open Go.Ev Go.RowKit RecLaw PathLaw

def isST (b : ByteArray) (x : Option (Value × AH)) : Bool :=
  match x with
  | some (.tuple ⟨[.string c, .bool true]⟩, _) => c.data.toList == b.data.toList
  | _ => false
theorem isST_eq {b : ByteArray} {x : Option (Value × AH)} (h : isST b x = true) : ∃ h', x = some (.tuple ⟨[.string b, .bool true]⟩, h') := by
  unfold isST at h
  split at h
  · rename_i c h'
    have := eq_of_beq h
    rw [← bl_self c, ← bl_self b, this]
    exact ⟨h', rfl⟩
  · cases h
theorem someSG : Tryz.f45.body.isSome = true := by kernel_rfl
theorem someDC : Tryz.f48.body.isSome = true := by kernel_rfl
theorem sg_runs : (wds.all fun w => isS (bl (segB w)) (arun Tryz.prog ST0.cfg 3000 Tryz.f45 [.string (bl w)] h0)) = true := by kernel_rfl
theorem dc_runs : (wds.all fun w => isST (bl w) (arun Tryz.prog ST0.cfg 3000 Tryz.f48 [.string (bl (segB w)), .bool false] h0)) = true := by kernel_rfl
theorem sg_fn {w : List UInt8} (hw : w ∈ wds) : FnOK 0 Tryz.prog 45 ⟨[.string (bl w)]⟩ h0 (fun u _ => u = .string (bl (segB w))) := by
  obtain ⟨h', hr⟩ := isS_eq (List.all_eq_true.1 sg_runs w hw)
  exact (arun_ok ST0_ok mixed Tryz.func45 someSG hr).mono fun _ _ q => q.1
theorem dc_fn {w : List UInt8} (hw : w ∈ wds) : FnOK 0 Tryz.prog 48 ⟨[.string (bl (segB w)), .bool false]⟩ h0 (fun u _ => u = .tuple ⟨[.string (bl w), .bool true]⟩) := by
  obtain ⟨h', hr⟩ := isST_eq (List.all_eq_true.1 dc_runs w hw)
  exact (arun_ok ST0_ok mixed Tryz.func48 someDC hr).mono fun _ _ q => q.1
noncomputable def inW (s : ByteArray) : Bool := wds.contains s.data.toList
noncomputable def inS (s : ByteArray) : Bool := segs.contains s.data.toList
noncomputable def spSg (f : FuncId) (args : Array Value) (h : AH) : Option (Bool × Value × AH) :=
  cond (Nat.beq f 45) (match args with
    | ⟨[.string s]⟩ => some (inW s, .string (bl (segB s.data.toList)), h)
    | _ => none) none
theorem spSg_ok : SpOK spSg := by
  intro f args h v h' hs
  unfold spSg at hs
  obtain ⟨hf, hs2⟩ := cond_some hs
  clear hs
  have := Nat.eq_of_beq_eq_true hf
  subst this
  split at hs2
  · injection hs2 with hs
    injection hs with hb hs
    injection hs with hv hh
    subst hv hh
    rename_i s
    have hw : s.data.toList ∈ wds := by simpa [inW] using hb
    have := sg_fn hw
    rw [bl_self] at this
    exact ⟨FnOK.pure this rfl rfl h, Nat.le_refl _⟩
  · cases hs2
noncomputable def spDc (f : FuncId) (args : Array Value) (h : AH) : Option (Bool × Value × AH) :=
  cond (Nat.beq f 48) (match args with
    | ⟨[.string s, .bool p]⟩ => some (inS s && !p, .tuple ⟨[.string (bl (decB s.data.toList)), .bool true]⟩, h)
    | _ => none) none
theorem spDc_ok : SpOK spDc := by
  intro f args h v h' hs
  unfold spDc at hs
  obtain ⟨hf, hs2⟩ := cond_some hs
  clear hs
  have := Nat.eq_of_beq_eq_true hf
  subst this
  split at hs2
  · injection hs2 with hs
    injection hs with hb hs
    injection hs with hv hh
    subst hv hh
    rename_i s p
    simp only [Bool.and_eq_true, Bool.not_eq_true'] at hb
    obtain ⟨hb, rfl⟩ := hb
    have hw : s.data.toList ∈ segs := by simpa [inS] using hb
    obtain ⟨w, hw, hs⟩ := List.mem_map.1 hw
    have := dc_fn hw
    rw [hs, bl_self] at this
    have e : decB s.data.toList = w := by rw [← hs]; exact (seg_ok w hw).1
    rw [e]
    exact ⟨FnOK.pure this rfl rfl h, Nat.le_refl _⟩
  · cases hs2

/-! JoinPath -/
noncomputable def SJ1 : SC := ⟨idn, spSg, true, true⟩
theorem SJ1_ok : SJ1.cfg.OK Tryz.prog := spSg_ok.cfg
noncomputable def wr0 (s : ByteArray) (K : List Value → Nat → Prop) : Prop :=
  bif Nat.ble (0 + s.size) 0 then False else bif Nat.ble (0 + s.size) 9223372036854775807 && Nat.ble ((0 + s.size) * 1) 140737488355328 then K (s.data.toList.map u8V) s.size else False
noncomputable def wrT (cs : List Value) (k : Nat) (s : ByteArray) (K : List Value → Nat → Prop) : Prop :=
  bif Nat.ble (k + s.size) k then False else bif Nat.ble (k + s.size) 9223372036854775807 && Nat.ble ((k + s.size) * 1) 140737488355328 then
    bif Nat.ble (0 + k * 1) (Array.mk cs).size && true && (s.data.toList.map u8V).all oneCell then K (List.take (k * 1) (List.drop 0 (Array.mk cs).toList) ++ s.data.toList.map u8V) (k + s.size) else False else False
noncomputable def enT (cs : List Value) (k : Nat) (Q : Value → Prop) : Prop :=
  bif decide ((k : Int) > 1000) then Q (.tuple ⟨[.string ⟨#[]⟩, .int .i64 2]⟩) else
    bif Nat.ble 1 k then bif decide (0 < (k : Int)) && decide ((k : Int) ≤ 9223372036854775807) && true && true && true && (0 + (k : Int).toNat).ble (Array.mk cs).size && (List.take (k : Int).toNat (List.drop 0 (Array.mk cs).toList)).all isByte then
      Q (.tuple ⟨[.string ⟨⟨List.map toByte (List.take (k : Int).toNat (List.drop 0 (Array.mk cs).toList))⟩⟩, .int .i64 0]⟩) else False else False
noncomputable def jpS (w : ByteArray) (Q : Value → Prop) (K : ByteArray → Prop) : Prop := Value.string w = Value.string w ∧
  bif w.toList == (ByteArray.mk #[46]).toList then Q (.tuple ⟨[.string ⟨#[]⟩, .int .i64 5]⟩) else bif w.toList == (ByteArray.mk #[46, 46]).toList then Q (.tuple ⟨[.string ⟨#[]⟩, .int .i64 5]⟩) else
    bif inW w then bif Nat.ble (1 + (bl (segB w.data.toList)).size) 1000000 then K (⟨#[47]⟩ ++ bl (segB w.data.toList)) else False else False
theorem someJP : Tryz.f11.body.isSome = true := by kernel_rfl
noncomputable def jx1 (w0 : ByteArray) (Q : Value → Prop) : Prop := jpS w0 Q (fun s => wr0 s fun cs k => enT cs k Q)
theorem jp1 (w0 : ByteArray) (Q : Value → Prop) : ffn Tryz.prog SJ1 [] 3000 [] Tryz.f11 [fz ⟨[.string w0]⟩] h0 (fun v _ => Q v) = jx1 w0 Q := by kernel_rfl
noncomputable def jx2 (w0 w1 : ByteArray) (Q : Value → Prop) : Prop := jpS w0 Q (fun s => wr0 s fun cs k => jpS w1 Q (fun s => wrT cs k s fun cs k => enT cs k Q))
theorem jp2 (w0 w1 : ByteArray) (Q : Value → Prop) : ffn Tryz.prog SJ1 [] 3000 [] Tryz.f11 [fz ⟨[.string w0, .string w1]⟩] h0 (fun v _ => Q v) = jx2 w0 w1 Q := by kernel_rfl
noncomputable def jx3 (w0 w1 w2 : ByteArray) (Q : Value → Prop) : Prop := jpS w0 Q (fun s => wr0 s fun cs k => jpS w1 Q (fun s => wrT cs k s fun cs k => jpS w2 Q (fun s => wrT cs k s fun cs k => enT cs k Q)))
theorem jp3 (w0 w1 w2 : ByteArray) (Q : Value → Prop) : ffn Tryz.prog SJ1 [] 3000 [] Tryz.f11 [fz ⟨[.string w0, .string w1, .string w2]⟩] h0 (fun v _ => Q v) = jx3 w0 w1 w2 Q := by kernel_rfl
noncomputable def jx4 (w0 w1 w2 w3 : ByteArray) (Q : Value → Prop) : Prop := jpS w0 Q (fun s => wr0 s fun cs k => jpS w1 Q (fun s => wrT cs k s fun cs k => jpS w2 Q (fun s => wrT cs k s fun cs k => jpS w3 Q (fun s => wrT cs k s fun cs k => enT cs k Q))))
theorem jp4 (w0 w1 w2 w3 : ByteArray) (Q : Value → Prop) : ffn Tryz.prog SJ1 [] 3000 [] Tryz.f11 [fz ⟨[.string w0, .string w1, .string w2, .string w3]⟩] h0 (fun v _ => Q v) = jx4 w0 w1 w2 w3 Q := by kernel_rfl
theorem oneB (l : List UInt8) : (l.map u8V).all oneCell = true := by
  rw [List.all_eq_true]
  intro v hv
  obtain ⟨b, _, rfl⟩ := List.mem_map.1 hv
  rfl
theorem byteB (l : List UInt8) : (l.map u8V).all isByte = true := by
  rw [List.all_eq_true]
  intro v hv
  obtain ⟨b, _, rfl⟩ := List.mem_map.1 hv
  unfold u8V isByte
  have := b.toNat_lt
  simp
  omega
theorem toB (l : List UInt8) : (l.map u8V).map toByte = l := by
  rw [List.map_map]
  have : toByte ∘ u8V = id := by
    funext b
    show UInt8.ofNat ((b.toNat : Int).toNat) = b
    simp
  rw [this, List.map_id]
theorem wr0_ok {l : List UInt8} {K : List Value → Nat → Prop} (h0 : l ≠ []) (h1 : l.length ≤ 100) (hK : K (l.map u8V) l.length) : wr0 (bl l) K := by
  unfold wr0
  have hp : 0 < l.length := List.length_pos_iff.2 h0
  rw [bl_size, bl_list]
  refine pick_f ?_ (need_mk ?_ hK)
  · rw [Bool.eq_false_iff, ne_eq, Nat.ble_eq]; omega
  · rw [Bool.and_eq_true, Nat.ble_eq, Nat.ble_eq]; omega
theorem wrT_ok {b l : List UInt8} {K : List Value → Nat → Prop} (h0 : l ≠ []) (h1 : l.length ≤ 100) (h2 : b.length ≤ 200) (hK : K ((b ++ l).map u8V) (b ++ l).length) : wrT (b.map u8V) b.length (bl l) K := by
  unfold wrT
  have hp : 0 < l.length := List.length_pos_iff.2 h0
  rw [bl_size, bl_list]
  refine pick_f ?_ (need_mk ?_ (need_mk ?_ ?_))
  · rw [Bool.eq_false_iff, ne_eq, Nat.ble_eq]; omega
  · rw [Bool.and_eq_true, Nat.ble_eq, Nat.ble_eq]; omega
  · rw [oneB]
    have : (0 + b.length * 1).ble (Array.mk (b.map u8V)).size = true := by
      rw [Nat.ble_eq]
      show 0 + b.length * 1 ≤ (b.map u8V).length
      rw [List.length_map]; omega
    rw [this]; rfl
  · have e : List.take (b.length * 1) (List.drop 0 (Array.mk (b.map u8V)).toList) = b.map u8V := by
      rw [List.drop_zero, Nat.mul_one]
      exact List.take_of_length_le (by show (b.map u8V).length ≤ _; rw [List.length_map]; exact Nat.le_refl _)
    rw [e, ← List.map_append, ← List.length_append]
    exact hK
theorem enT_ok {b : List UInt8} {Q : Value → Prop} (h0 : b ≠ []) (h1 : b.length ≤ 100) (hQ : Q (.tuple ⟨[.string (bl b), .int .i64 0]⟩)) : enT (b.map u8V) b.length Q := by
  unfold enT
  have hp : 0 < b.length := List.length_pos_iff.2 h0
  have e : List.take (b.length : Int).toNat (List.drop 0 (Array.mk (b.map u8V)).toList) = b.map u8V := by
    rw [List.drop_zero]
    exact List.take_of_length_le (by show (b.map u8V).length ≤ _; rw [List.length_map]; exact Nat.le_refl _)
  rw [e, byteB, toB]
  refine pick_f (decide_eq_false (by omega)) (need_mk (Nat.ble_eq_true_of_le (by omega)) (need_mk ?_ hQ))
  have : (0 + (b.length : Int).toNat).ble (Array.mk (b.map u8V)).size = true := by
    rw [Nat.ble_eq]
    show 0 + b.length ≤ (b.map u8V).length
    rw [List.length_map]; omega
  rw [this]
  simp
  omega
theorem jpS_ok {w : List UInt8} (hw : w ∈ wds) {Q : Value → Prop} {K : ByteArray → Prop} (hK : K (bl (47 :: segB w))) : jpS (bl w) Q K := by
  obtain ⟨_, _, _, _, _, h6, _, h8, h9, _⟩ := seg_ok w hw
  unfold jpS
  rw [bl_beq, bl_beq, bl_list, bl_size]
  refine ⟨rfl, ?_⟩
  refine pick_f (beq_eq_false_iff_ne.2 h8) (pick_f (beq_eq_false_iff_ne.2 h9) (need_mk ?_ (need_mk (Nat.ble_eq_true_of_le (by omega)) ?_)))
  · unfold inW
    rw [bl_list]
    simpa using hw
  · rw [show (⟨#[47]⟩ : ByteArray) = bl [47] from rfl, bl_app]
    exact hK
theorem jg1 {w0 : List UInt8} (h0 : w0 ∈ wds) (Q : Value → Prop) (hQ : Q (.tuple ⟨[.string (bl (txt [w0])), .int .i64 0]⟩)) : jx1 (bl w0) Q := by
  have l0 := (seg_ok w0 h0).2.2.2.2.2.1
  refine jpS_ok h0 ?_
  refine wr0_ok (l := 47 :: segB w0) (by simp) (by simp; omega) ?_
  have e : txt [w0] = (47 :: segB w0) := by simp [txt]
  rw [e] at hQ
  exact enT_ok (b := (47 :: segB w0)) (by simp) (by simp; omega) hQ
theorem jg2 {w0 w1 : List UInt8} (h0 : w0 ∈ wds) (h1 : w1 ∈ wds) (Q : Value → Prop) (hQ : Q (.tuple ⟨[.string (bl (txt [w0, w1])), .int .i64 0]⟩)) : jx2 (bl w0) (bl w1) Q := by
  have l0 := (seg_ok w0 h0).2.2.2.2.2.1
  have l1 := (seg_ok w1 h1).2.2.2.2.2.1
  refine jpS_ok h0 ?_
  refine wr0_ok (l := 47 :: segB w0) (by simp) (by simp; omega) ?_
  refine jpS_ok h1 ?_
  refine wrT_ok (b := (47 :: segB w0)) (l := 47 :: segB w1) (by simp) (by simp; omega) (by simp; omega) ?_
  have e : txt [w0, w1] = (47 :: segB w0) ++ (47 :: segB w1) := by simp [txt]
  rw [e] at hQ
  exact enT_ok (b := (47 :: segB w0) ++ (47 :: segB w1)) (by simp) (by simp; omega) hQ
theorem jg3 {w0 w1 w2 : List UInt8} (h0 : w0 ∈ wds) (h1 : w1 ∈ wds) (h2 : w2 ∈ wds) (Q : Value → Prop) (hQ : Q (.tuple ⟨[.string (bl (txt [w0, w1, w2])), .int .i64 0]⟩)) : jx3 (bl w0) (bl w1) (bl w2) Q := by
  have l0 := (seg_ok w0 h0).2.2.2.2.2.1
  have l1 := (seg_ok w1 h1).2.2.2.2.2.1
  have l2 := (seg_ok w2 h2).2.2.2.2.2.1
  refine jpS_ok h0 ?_
  refine wr0_ok (l := 47 :: segB w0) (by simp) (by simp; omega) ?_
  refine jpS_ok h1 ?_
  refine wrT_ok (b := (47 :: segB w0)) (l := 47 :: segB w1) (by simp) (by simp; omega) (by simp; omega) ?_
  refine jpS_ok h2 ?_
  refine wrT_ok (b := (47 :: segB w0) ++ (47 :: segB w1)) (l := 47 :: segB w2) (by simp) (by simp; omega) (by simp; omega) ?_
  have e : txt [w0, w1, w2] = (47 :: segB w0) ++ (47 :: segB w1) ++ (47 :: segB w2) := by simp [txt]
  rw [e] at hQ
  exact enT_ok (b := (47 :: segB w0) ++ (47 :: segB w1) ++ (47 :: segB w2)) (by simp) (by simp; omega) hQ
theorem jg4 {w0 w1 w2 w3 : List UInt8} (h0 : w0 ∈ wds) (h1 : w1 ∈ wds) (h2 : w2 ∈ wds) (h3 : w3 ∈ wds) (Q : Value → Prop) (hQ : Q (.tuple ⟨[.string (bl (txt [w0, w1, w2, w3])), .int .i64 0]⟩)) : jx4 (bl w0) (bl w1) (bl w2) (bl w3) Q := by
  have l0 := (seg_ok w0 h0).2.2.2.2.2.1
  have l1 := (seg_ok w1 h1).2.2.2.2.2.1
  have l2 := (seg_ok w2 h2).2.2.2.2.2.1
  have l3 := (seg_ok w3 h3).2.2.2.2.2.1
  refine jpS_ok h0 ?_
  refine wr0_ok (l := 47 :: segB w0) (by simp) (by simp; omega) ?_
  refine jpS_ok h1 ?_
  refine wrT_ok (b := (47 :: segB w0)) (l := 47 :: segB w1) (by simp) (by simp; omega) (by simp; omega) ?_
  refine jpS_ok h2 ?_
  refine wrT_ok (b := (47 :: segB w0) ++ (47 :: segB w1)) (l := 47 :: segB w2) (by simp) (by simp; omega) (by simp; omega) ?_
  refine jpS_ok h3 ?_
  refine wrT_ok (b := (47 :: segB w0) ++ (47 :: segB w1) ++ (47 :: segB w2)) (l := 47 :: segB w3) (by simp) (by simp; omega) (by simp; omega) ?_
  have e : txt [w0, w1, w2, w3] = (47 :: segB w0) ++ (47 :: segB w1) ++ (47 :: segB w2) ++ (47 :: segB w3) := by simp [txt]
  rw [e] at hQ
  exact enT_ok (b := (47 :: segB w0) ++ (47 :: segB w1) ++ (47 :: segB w2) ++ (47 :: segB w3)) (by simp) (by simp; omega) hQ
/-- Lists of one to four of the seven words. -/
def okL (L : List (List UInt8)) : Prop := L ≠ [] ∧ L.length ≤ 4 ∧ ∀ w ∈ L, w ∈ wds
theorem jp_fn : ∀ {L : List (List UInt8)}, okL L → FnOK 0 Tryz.prog 11 ⟨[fz ⟨L.map strV⟩]⟩ h0 (fun v _ => v = .tuple ⟨[.string (bl (txt L)), .int .i64 0]⟩)
  | [], h => absurd rfl h.1
  | [w0], h => FnOK.ftree SJ1_ok mixed Tryz.func11 someJP (jp1 (bl w0) _) (jg1 (h.2.2 w0 (by simp)) _ rfl)
  | [w0, w1], h => FnOK.ftree SJ1_ok mixed Tryz.func11 someJP (jp2 (bl w0) (bl w1) _) (jg2 (h.2.2 w0 (by simp)) (h.2.2 w1 (by simp)) _ rfl)
  | [w0, w1, w2], h => FnOK.ftree SJ1_ok mixed Tryz.func11 someJP (jp3 (bl w0) (bl w1) (bl w2) _) (jg3 (h.2.2 w0 (by simp)) (h.2.2 w1 (by simp)) (h.2.2 w2 (by simp)) _ rfl)
  | [w0, w1, w2, w3], h => FnOK.ftree SJ1_ok mixed Tryz.func11 someJP (jp4 (bl w0) (bl w1) (bl w2) (bl w3) _) (jg4 (h.2.2 w0 (by simp)) (h.2.2 w1 (by simp)) (h.2.2 w2 (by simp)) (h.2.2 w3 (by simp)) _ rfl)
  | _ :: _ :: _ :: _ :: _ :: _, h => absurd h.2.1 (by simp)
def unS : Value → List UInt8
  | .string s => s.data.toList
  | _ => []
theorem unS_map (L : List (List UInt8)) : (L.map strV).map unS = L := by
  rw [List.map_map]
  have : unS ∘ strV = id := by funext l; exact bl_list l
  rw [this, List.map_id]
open Classical in
noncomputable def okW (vs : List Value) : Bool := @decide (∃ L, okL L ∧ vs = L.map strV) (Classical.propDecidable _)
open Classical in
theorem okW_iff {vs : List Value} : okW vs = true ↔ ∃ L, okL L ∧ vs = L.map strV := by unfold okW; exact decide_eq_true_iff
noncomputable def spJp (f : FuncId) (args : Array Value) (h : AH) : Option (Bool × Value × AH) :=
  cond (Nat.beq f 11) (match args with
    | ⟨[.func (.yield 0) ⟨vs⟩ ⟨[]⟩]⟩ => some (okW vs, .tuple ⟨[.string (bl (txt (vs.map unS))), .int .i64 0]⟩, h)
    | _ => none) none
theorem spJp_ok : SpOK spJp := by
  intro f args h v h' hs
  unfold spJp at hs
  obtain ⟨hf, hs2⟩ := cond_some hs
  clear hs
  have := Nat.eq_of_beq_eq_true hf
  subst this
  split at hs2
  · injection hs2 with hs
    injection hs with hb hs
    injection hs with hv hh
    subst hv hh
    rename_i vs
    obtain ⟨L, hL, rfl⟩ := okW_iff.1 hb
    rw [unS_map]
    exact ⟨FnOK.pure (jp_fn hL) rfl rfl h, Nat.le_refl _⟩
  · cases hs2
end Go.Proofs.YtfjfdemnnhfmoaaGreatDoor
