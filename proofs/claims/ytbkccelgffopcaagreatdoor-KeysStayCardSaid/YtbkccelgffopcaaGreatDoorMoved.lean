/-
  'Moved' as a specification.
-/
import Derived.Test.YtbkccelgffopcaaGreatDoorOrdG
namespace Go.Proofs.YtbkccelgffopcaaGreatDoor
open Go.Ev Go.RowKit

noncomputable def SMv : SC := ⟨idn, spOr spChk5 spHd, true, true⟩
theorem SMv_ok : SMv.cfg.OK Tryz.prog := (spChk5_ok.or spHd_ok).cfg
def ks7 : List Value := [.string ⟨#[107, 49]⟩, .string ⟨#[107, 50]⟩, .string ⟨#[107, 51]⟩, .string ⟨#[117, 115, 101, 114, 45, 55]⟩, .string ⟨#[122]⟩, .string ⟨#[113]⟩, .string ⟨#[119]⟩]
/-- The key at a place. -/
def kq (ks : List Value) (i : Int) : ByteArray := toStr ((Array.mk ks).toList.getD i.toNat (Value.tuple { toList := [] }))
/-- Whether another one is first. -/
noncomputable def mvB (xs ys : List Value) (k : ByteArray) : Bool := !((hdP k xs).1.toList == (hdP k ys).1.toList)
noncomputable def chkM (xs ys ks : List Value) (i : Int) (X Y : Prop) : Prop :=
  cond (decide (0 ≤ i) && decide (i < ((Array.mk ks).size : Int)) && true) ((Array.mk ks).toList.getD i.toNat (Value.tuple { toList := [] }) = .string (kq ks i) ∧
    cond (rightI xs && Nat.ble (kq ks i).size 1000) (cond (decide (0 < ((Array.mk (instV (hdP (kq ks i) xs) :: (tlP (kq ks i) xs).map instV)).size : Int)) && true) (instV (hdP (kq ks i) xs) = instV (hdP (kq ks i) xs) ∧
      cond (rightI ys && Nat.ble (kq ks i).size 1000) (cond (decide (0 < ((Array.mk (instV (hdP (kq ks i) ys) :: (tlP (kq ks i) ys).map instV)).size : Int)) && true) (instV (hdP (kq ks i) ys) = instV (hdP (kq ks i) ys) ∧
        cond (mvB xs ys (kq ks i)) X Y) False) False) False) False) False
def blk (ss : List Value) : AH := ⟨1, 1, [(0, .cells ⟨ss⟩ 9 (0, 0))]⟩
theorem mvo (xs ys ks ss : List Value) (j : Nat) (n i : Int) (B : List Value → AH → Prop) (Q : AExit → List Value → AH → Prop) :
    once 0 Tryz.prog SMv [] noHooks 300 77 [0, 1, 14, 52, 53, 54] [0] [14] [0] (oneLoop (codeOf Tryz.f8) 21) [fz ⟨xs⟩, fz ⟨ys⟩, .slice (some ⟨0, 0, none⟩) j j, fz ⟨ks⟩, .int .i64 n, .int .i64 i] (blk ss) B Q =
    cond (decide (i < n)) (chkM xs ys ks i
      (cond (Nat.ble (j + 1) j) False (cond (Nat.ble (j + 1) 9223372036854775807 && Nat.ble ((j + 1) * 16) 140737488355328) (cond (Nat.ble (0 + j * 1) (Array.mk ss).size && true && true)
        (NoNames (.cells ⟨List.take (j * 1) (List.drop 0 (Array.mk ss).toList) ++ [.string (kq ks i)]⟩ 9 (0, 0)) ∧ B [fz ⟨xs⟩, fz ⟨ys⟩, .slice (some ⟨0, 0, none⟩) (j + 1) (j + 1), fz ⟨ks⟩, .int .i64 n, .int .i64 (IntKind.i64.wrap (i + 1))] (blk (List.take (j * 1) (List.drop 0 (Array.mk ss).toList) ++ [.string (kq ks i)]))) False) False))
      (NoNames (.cells ⟨ss⟩ 9 (0, 0)) ∧ B [fz ⟨xs⟩, fz ⟨ys⟩, .slice (some ⟨0, 0, none⟩) j j, fz ⟨ks⟩, .int .i64 n, .int .i64 (IntKind.i64.wrap (i + 1))] (blk ss)))
      (NoNames (.cells ⟨ss⟩ 9 (0, 0)) ∧ Q (.exit 4) [.slice (some ⟨0, 0, none⟩) j j] (blk ss)) := by kernel_rfl
theorem mv0 (xs ys ks : List Value) (n i : Int) (B : List Value → AH → Prop) (Q : AExit → List Value → AH → Prop) :
    once 0 Tryz.prog SMv [] noHooks 300 77 [0, 1, 14, 52, 53, 54] [0] [14] [0] (oneLoop (codeOf Tryz.f8) 21) [fz ⟨xs⟩, fz ⟨ys⟩, .slice none 0 0, fz ⟨ks⟩, .int .i64 n, .int .i64 i] h0 B Q =
    cond (decide (i < n)) (chkM xs ys ks i
      (NoNames (.cells ⟨[.string (kq ks i)]⟩ 9 (0, 0)) ∧ B [fz ⟨xs⟩, fz ⟨ys⟩, .slice (some ⟨0, 0, none⟩) 1 1, fz ⟨ks⟩, .int .i64 n, .int .i64 (IntKind.i64.wrap (i + 1))] (blk [.string (kq ks i)]))
      (B [fz ⟨xs⟩, fz ⟨ys⟩, .slice none 0 0, fz ⟨ks⟩, .int .i64 n, .int .i64 (IntKind.i64.wrap (i + 1))] h0))
      (Q (.exit 4) [.slice none 0 0] h0) := by kernel_rfl
/-- A list that was built, and its memory. -/
def outV : List ByteArray → Value
  | [] => .slice none 0 0
  | k :: l => .slice (some ⟨0, 0, none⟩) (k :: l).length (k :: l).length
def outH : List ByteArray → AH
  | [] => h0
  | k :: l => blk ((k :: l).map Value.string)
noncomputable def movL (xs ys : List Value) : List Value → List ByteArray
  | [] => []
  | v :: l => cond (mvB xs ys (toStr v)) (toStr v :: movL xs ys l) (movL xs ys l)
theorem chkM_ok {xs ys ks : List Value} {i : Nat} {X Y : Prop} (hk : ks.all isStr = true) (hs : ∀ v ∈ ks, (toStr v).size ≤ 1000) (hi : i < ks.length) (hx : rightI xs = true) (hy : rightI ys = true) (h : cond (mvB xs ys (toStr (ks.getD i (Value.tuple { toList := [] })))) X Y) : chkM xs ys ks i X Y := by
  have e : kq ks i = toStr (ks.getD i (Value.tuple { toList := [] })) := by simp [kq]
  have hm : ks.getD i (Value.tuple { toList := [] }) ∈ ks := by
    have : ks.getD i (Value.tuple { toList := [] }) = ks[i] := by simp [List.getD, hi]
    rw [this]; exact List.getElem_mem hi
  have hz : (kq ks i).size ≤ 1000 := by rw [e]; exact hs _ hm
  have hpos : ∀ (v : Value) (l : List Value), (decide (0 < ((Array.mk (v :: l)).size : Int)) && true) = true := by
    intro v l
    simp
  unfold chkM
  refine need_mk (by simp; omega) ⟨by rw [e]; simpa using str_get hk hi, need_mk (by rw [hx, Nat.ble_eq_true_of_le hz]; rfl) (need_mk (hpos _ _) ⟨rfl, need_mk (by rw [hy, Nat.ble_eq_true_of_le hz]; rfl) (need_mk (hpos _ _) ⟨rfl, ?_⟩)⟩)⟩
  rw [e]
  exact h
theorem nn_str (l : List ByteArray) (t : TypeId) (fr : Nat × Nat) : NoNames (.cells ⟨l.map Value.string⟩ t fr) := by
  intro v hv
  obtain ⟨s, _, rfl⟩ := List.mem_map.1 (show v ∈ l.map Value.string by simpa using hv)
  rfl
theorem mv_loop {xs ys ks : List Value} (hx : rightI xs = true) (hy : rightI ys = true) (hk : ks.all isStr = true) (hs : ∀ v ∈ ks, (toStr v).size ≤ 1000) (hn : ks.length ≤ 1000) (K : AExit → List Value → AH → Prop) :
    ∀ (r i : Nat) (l : List ByteArray), i + r = ks.length → l.length ≤ i → K (.exit 4) [outV (l ++ movL xs ys (ks.drop i))] (outH (l ++ movL xs ys (ks.drop i))) →
      iter 0 Tryz.prog SMv [] noHooks 300 77 [0, 1, 14, 52, 53, 54] [0] [14] [0] (oneLoop (codeOf Tryz.f8) 21) (r + 1) [fz ⟨xs⟩, fz ⟨ys⟩, outV l, fz ⟨ks⟩, .int .i64 (ks.length : Int), .int .i64 (i : Int)] (outH l) K := by
  intro r
  induction r with
  | zero =>
    intro i l h1 h2 h3
    rw [List.drop_eq_nil_of_le (by omega)] at h3
    simp only [movL, List.append_nil] at h3
    cases l with
    | nil =>
      refine (mv0 xs ys ks _ _ _ K).mpr (pick_f (by simp; omega) h3)
    | cons k l =>
      exact (mvo xs ys ks _ _ _ _ _ K).mpr (pick_f (by simp; omega) ⟨nn_str (k :: l) _ _, h3⟩)
  | succ r ih =>
    intro i l h1 h2 h3
    have hi : i < ks.length := by omega
    rw [drop_cons hi] at h3
    have e : kq ks i = toStr (ks.getD i (Value.tuple { toList := [] })) := by simp [kq]
    have ew : IntKind.i64.wrap ((i : Int) + 1) = ((i + 1 : Nat) : Int) := by rw [wrap_id _ (by omega) (by omega)]; rfl
    cases l with
    | nil =>
      refine (mv0 xs ys ks _ _ _ K).mpr (pick_t (by simp; omega) (chkM_ok hk hs hi hx hy ?_))
      rw [ew]
      cases hb : mvB xs ys (toStr (ks.getD i (Value.tuple { toList := [] }))) with
      | true =>
        simp only [movL, hb, cond_true, List.nil_append] at h3
        refine ⟨nn_str [kq ks i] _ _, ?_⟩
        rw [e]
        exact ih (i + 1) [toStr (ks.getD i (Value.tuple { toList := [] }))] (by omega) (by simp) h3
      | false =>
        simp only [movL, hb, cond_false, List.nil_append] at h3
        exact ih (i + 1) [] (by omega) (by simp) h3
    | cons k l =>
      refine (mvo xs ys ks _ _ _ _ _ K).mpr (pick_t (by simp; omega) (chkM_ok hk hs hi hx hy ?_))
      rw [ew]
      have hlen : ((k :: l).map Value.string).length = (k :: l).length := List.length_map _
      cases hb : mvB xs ys (toStr (ks.getD i (Value.tuple { toList := [] }))) with
      | true =>
        simp only [movL, hb, cond_true] at h3
        refine pick_t rfl (pick_f (ble_ss _) (need_mk (ble_big _ (by omega)) (need_mk (ble_len hlen) ?_)))
        rw [take_ok hlen, e]
        have e2 : (k :: l).map Value.string ++ [.string (toStr (ks.getD i (Value.tuple { toList := [] })))] = (k :: l ++ [toStr (ks.getD i (Value.tuple { toList := [] }))]).map Value.string := by simp
        rw [e2]
        refine ⟨nn_str _ _ _, ?_⟩
        have := ih (i + 1) (k :: l ++ [toStr (ks.getD i (Value.tuple { toList := [] }))]) (by omega) (by simp at h2 ⊢; omega) (by simpa using h3)
        simpa [outV, outH] using this
      | false =>
        simp only [movL, hb, cond_false] at h3
        exact ⟨nn_str (k :: l) _ _, ih (i + 1) (k :: l) (by omega) (by omega) h3⟩
theorem mv_loop2 {xs ys ks : List Value} (hx : rightI xs = true) (hy : rightI ys = true) (hk : ks.all isStr = true) (hs : ∀ v ∈ ks, (toStr v).size ≤ 1000) (hn : ks.length ≤ 1000) (K : AExit → List Value → AH → Prop)
    (n i : Int) (hn2 : n = (ks.length : Int)) (hi : i = 0) (h : K (.exit 4) [outV (movL xs ys ks)] (outH (movL xs ys ks))) :
    ∃ R, iter 0 Tryz.prog SMv [] noHooks 300 77 [0, 1, 14, 52, 53, 54] [0] [14] [0] (oneLoop (codeOf Tryz.f8) 21) R [fz ⟨xs⟩, fz ⟨ys⟩, .slice none 0 0, fz ⟨ks⟩, .int .i64 n, .int .i64 i] h0 K := by
  subst hn2 hi
  exact ⟨_, mv_loop hx hy hk hs hn K ks.length 0 [] (by omega) (Nat.le_refl _) h⟩
theorem one8 : (loopAt (codeOf Tryz.f8) 21).length = 1 := by kernel_rfl
theorem some8 : Tryz.f8.body.isSome = true := by kernel_rfl
noncomputable def eqs7 (X : Prop) : Prop := List.rec (motive := fun _ => Prop) X (fun v _ ih => v = v ∧ ih) ks7
theorem eqs7_mk {X : Prop} (h : X) : eqs7 X := ⟨rfl, rfl, rfl, rfl, rfl, rfl, rfl, h⟩
theorem mvf0 (xs ys : List Value) (C : List Value → AH → Prop) (Q : Value → Option Obj → Prop) :
    tfn Tryz.prog SMv [] (hook1 21 (hookLS 0 77 [0, 1, 14, 52, 53, 54] [0] [14] (fun vals h K => C vals h ∧ K (.exit 4) [.slice none 0 0] h0))) 2000 [] Tryz.f8 [fz ⟨xs⟩, fz ⟨ys⟩, fz ⟨ks7⟩] h0 (fun v h => Q v (h.get 0)) =
    cond (rightI xs && (plist xs).all wtOk) (cond (rightI ys && (plist ys).all wtOk) (eqs7 (cond (((Array.mk xs).size : Int) == 0) (Q (.tuple ⟨[.slice none 0 0, .int .i64 8]⟩) none) (cond (((Array.mk ys).size : Int) == 0) (Q (.tuple ⟨[.slice none 0 0, .int .i64 8]⟩) none)
      (C [fz ⟨xs⟩, fz ⟨ys⟩, .slice none 0 0, fz ⟨ks7⟩, .int .i64 7, .int .i64 0] h0 ∧ Q (.tuple ⟨[.slice none 0 0, .int .i64 0]⟩) none)))) False) False := by kernel_rfl
theorem mvf1 (xs ys ss : List Value) (j : Nat) (C : List Value → AH → Prop) (Q : Value → Option Obj → Prop) :
    tfn Tryz.prog SMv [] (hook1 21 (hookLS 0 77 [0, 1, 14, 52, 53, 54] [0] [14] (fun vals h K => C vals h ∧ K (.exit 4) [.slice (some ⟨0, 0, none⟩) j j] (blk ss)))) 2000 [] Tryz.f8 [fz ⟨xs⟩, fz ⟨ys⟩, fz ⟨ks7⟩] h0 (fun v h => Q v (h.get 0)) =
    cond (rightI xs && (plist xs).all wtOk) (cond (rightI ys && (plist ys).all wtOk) (eqs7 (cond (((Array.mk xs).size : Int) == 0) (Q (.tuple ⟨[.slice none 0 0, .int .i64 8]⟩) none) (cond (((Array.mk ys).size : Int) == 0) (Q (.tuple ⟨[.slice none 0 0, .int .i64 8]⟩) none)
      (C [fz ⟨xs⟩, fz ⟨ys⟩, .slice none 0 0, fz ⟨ks7⟩, .int .i64 7, .int .i64 0] h0 ∧ Q (.tuple ⟨[.slice (some ⟨0, 0, none⟩) j j, .int .i64 0]⟩) (some (.cells ⟨ss⟩ 9 (0, 0))))))) False) False := by kernel_rfl
theorem ks7_str : ks7.all isStr = true := by rfl
theorem ks7_len : 8 = ks7.length + 1 := rfl
theorem ks7_len2 : (7 : Int) = (ks7.length : Int) := rfl
theorem ks7_le : ks7.length ≤ 1000 := by rw [show ks7.length = 7 from rfl]; omega
theorem ks7_small : ∀ v ∈ ks7, (toStr v).size ≤ 1000 := by
  intro v hv
  simp only [ks7, List.mem_cons, List.not_mem_nil, or_false] at hv
  rcases hv with rfl | rfl | rfl | rfl | rfl | rfl | rfl <;> decide
theorem freeze2 {p : Nat} {P : Program} {h : AH} {b : Nat} {t : TypeId} {fr : Nat × Nat} (e : Value) (l : List ByteArray) {m : Nat} (hm : l.length = m) (hb : h.get b = some (.cells ⟨l.map Value.string⟩ t fr)) :
    Weak p P ⟨[.slice (some ⟨b, 0, none⟩) m m, e]⟩ h ⟨[fz ⟨l.map Value.string⟩, e]⟩ (h.del b) := by
  refine Weak.freeze (n := m) (cap := m) b 1 ⟨l.map Value.string⟩ hb ?_ (by simpa using hm) (Nat.le_refl _) (by simp; omega) ?_ ?_ rfl ?_
  · intro v hv
    obtain ⟨s, _, rfl⟩ := List.mem_map.1 (show v ∈ l.map Value.string by simpa using hv)
    rfl
  · intro i x hx
    have hx : (l.map Value.string)[i]? = some x := by simpa using hx
    rw [List.getElem?_map] at hx
    obtain ⟨q, _, rfl⟩ := Option.map_eq_some_iff.1 hx
    rfl
  · intro i j x v hx hv
    have hx : (l.map Value.string)[i]? = some x := by simpa using hx
    have hx0 := hx
    rw [List.getElem?_map] at hx
    obtain ⟨q, _, rfl⟩ := Option.map_eq_some_iff.1 hx
    match j, hv with
    | 0, hv =>
      have : Value.string q = v := by simpa [Value.cells] using hv
      rw [← this, Nat.mul_one, Nat.add_zero]
      simpa using hx0
    | j + 1, hv => simp [Value.cells] at hv
  · intro i
    match i with
    | 0 => exact .inr ⟨rfl, rfl⟩
    | i + 1 => exact .inl (by simp)
theorem nil2 {p : Nat} {P : Program} {h : AH} (e : Value) : Weak p P ⟨[.slice none 0 0, e]⟩ h ⟨[fz ⟨[]⟩, e]⟩ h :=
  Weak.nil rfl fun i => by
    match i with
    | 0 => exact .inr ⟨0, rfl, rfl⟩
    | i + 1 => exact .inl (by simp)
theorem moved_fn (xs ys : List Value) (hx : rightI xs = true) (hy : rightI ys = true) (hwx : (plist xs).all wtOk = true) (hwy : (plist ys).all wtOk = true) :
    FnOK 0 Tryz.prog 8 ⟨[fz ⟨xs⟩, fz ⟨ys⟩, fz ⟨ks7⟩]⟩ h0 (fun v _ => v = .tuple ⟨[fz ⟨(movL xs ys ks7).map Value.string⟩, .int .i64 0]⟩) := by
  have ne : ∀ {zs : List Value}, rightI zs = true → ((((Array.mk zs).size : Nat) : Int) == 0) = false := by
    intro zs hz
    cases zs with
    | nil => exact (rightI_ne hz rfl).elim
    | cons a l => simp; omega
  refine FnOK.weakT ?_
  cases hm : movL xs ys ks7 with
  | nil =>
    have hC : LSpec 0 Tryz.prog 77 (oneLoop (codeOf Tryz.f8) 21) (hookLS 0 77 [0, 1, 14, 52, 53, 54] [0] [14] (fun vals h K => (vals = [fz ⟨xs⟩, fz ⟨ys⟩, .slice none 0 0, fz ⟨ks7⟩, .int .i64 7, .int .i64 0] ∧ h = h0) ∧ K (.exit 4) [.slice none 0 0] h0)) := by
      refine hook_ok (G := []) (L := noHooks) (f := 300) (sameX := [0]) SMv_ok mixed (by decide) (loops_none _ _ _ _) ?_
      rintro vals h K ⟨⟨rfl, rfl⟩, hK⟩
      exact mv_loop2 (ks := ks7) hx hy ks7_str ks7_small ks7_le K 7 0 ks7_len2 rfl (by rw [hm]; exact hK)
    refine (FnOK.ttree SMv_ok mixed Tryz.func8 some8 (loops_one one8 hC) (mvf0 xs ys (fun vals h => vals = [fz ⟨xs⟩, fz ⟨ys⟩, .slice none 0 0, fz ⟨ks7⟩, .int .i64 7, .int .i64 0] ∧ h = h0) (fun v _ => v = .tuple ⟨[.slice none 0 0, .int .i64 0]⟩)) ?_).mono ?_
    · exact need_mk (by rw [hx, hwx]; rfl) (need_mk (by rw [hy, hwy]; rfl) (eqs7_mk (pick_f (ne hx) (pick_f (ne hy) ⟨⟨rfl, rfl⟩, rfl⟩))))
    · rintro v g rfl
      exact ⟨_, _, _, rfl, nil2 _, rfl⟩
  | cons k l =>
    have hC : LSpec 0 Tryz.prog 77 (oneLoop (codeOf Tryz.f8) 21) (hookLS 0 77 [0, 1, 14, 52, 53, 54] [0] [14] (fun vals h K => (vals = [fz ⟨xs⟩, fz ⟨ys⟩, .slice none 0 0, fz ⟨ks7⟩, .int .i64 7, .int .i64 0] ∧ h = h0) ∧ K (.exit 4) [.slice (some ⟨0, 0, none⟩) (k :: l).length (k :: l).length] (blk ((k :: l).map Value.string)))) := by
      refine hook_ok (G := []) (L := noHooks) (f := 300) (sameX := [0]) SMv_ok mixed (by decide) (loops_none _ _ _ _) ?_
      rintro vals h K ⟨⟨rfl, rfl⟩, hK⟩
      exact mv_loop2 (ks := ks7) hx hy ks7_str ks7_small ks7_le K 7 0 ks7_len2 rfl (by rw [hm]; exact hK)
    refine (FnOK.ttree SMv_ok mixed Tryz.func8 some8 (loops_one one8 hC) (mvf1 xs ys ((k :: l).map Value.string) (k :: l).length (fun vals h => vals = [fz ⟨xs⟩, fz ⟨ys⟩, .slice none 0 0, fz ⟨ks7⟩, .int .i64 7, .int .i64 0] ∧ h = h0)
      (fun v o => v = .tuple ⟨[.slice (some ⟨0, 0, none⟩) (k :: l).length (k :: l).length, .int .i64 0]⟩ ∧ o = some (.cells ⟨(k :: l).map Value.string⟩ 9 (0, 0)))) ?_).mono ?_
    · exact need_mk (by rw [hx, hwx]; rfl) (need_mk (by rw [hy, hwy]; rfl) (eqs7_mk (pick_f (ne hx) (pick_f (ne hy) ⟨⟨rfl, rfl⟩, rfl, rfl⟩))))
    · rintro v g ⟨rfl, hb⟩
      exact ⟨_, _, _, rfl, freeze2 _ (k :: l) rfl hb, rfl⟩
def isKs7 (zs : List Value) : Bool := zs.all isStr && eqKeys (ks7.map toStr) (zs.map toStr)
theorem isKs7_eq {zs : List Value} (h : isKs7 zs = true) : zs = ks7 := by
  unfold isKs7 at h
  rw [Bool.and_eq_true] at h
  have e := eqKeys_eq h.2
  have back : ∀ l : List Value, l.all isStr = true → (l.map toStr).map Value.string = l := by
    intro l
    induction l with
    | nil => intro _; rfl
    | cons v l ih =>
      intro hl
      simp only [List.all_cons, Bool.and_eq_true] at hl
      simp only [List.map_cons, ih hl.2]
      cases v <;> first | rfl | (cases hl.1; done)
  rw [← back zs h.1, ← e]
  rfl
noncomputable def spMoved (f : FuncId) (args : Array Value) (h : AH) : Option (Bool × Value × AH) :=
  cond (Nat.beq f 8) (match args with
    | ⟨[.func (.yield 0) ⟨xs⟩ ⟨[]⟩, .func (.yield 0) ⟨ys⟩ ⟨[]⟩, .func (.yield 0) ⟨zs⟩ ⟨[]⟩]⟩ => some (rightI xs && rightI ys && (plist xs).all wtOk && (plist ys).all wtOk && isKs7 zs, .tuple ⟨[fz ⟨(movL xs ys ks7).map Value.string⟩, .int .i64 0]⟩, h)
    | _ => none) none
theorem spMoved_ok : SpOK spMoved := by
  intro f args h v h' hs
  unfold spMoved at hs
  obtain ⟨hf, hs2⟩ := cond_some hs
  clear hs
  have := Nat.eq_of_beq_eq_true hf
  subst this
  split at hs2
  · injection hs2 with hs
    injection hs with hb hs
    injection hs with hv hh
    subst hv hh
    simp only [Bool.and_eq_true] at hb
    obtain ⟨⟨⟨⟨b1, b2⟩, b3⟩, b4⟩, b5⟩ := hb
    rw [isKs7_eq b5]
    exact ⟨FnOK.pure (moved_fn _ _ b1 b2 b3 b4) rfl rfl h, Nat.le_refl _⟩
  · cases hs2

open Classical in
noncomputable def movB (ms xs ys : List Value) : Bool := decide ((movL xs ys ks7).map Value.string = ms)
theorem movB_eq {ms xs ys : List Value} : movB ms xs ys = true ↔ (movL xs ys ks7).map Value.string = ms := by simp [movB]
open Classical in
noncomputable def mvT (ms xs ys zs : List Value) : Bool := decide ((rightI xs && rightI ys && (plist xs).all wtOk && (plist ys).all wtOk && isKs7 zs && movB ms xs ys) = true)
theorem mvT_eq {ms xs ys zs : List Value} : mvT ms xs ys zs = true ↔ (rightI xs && rightI ys && (plist xs).all wtOk && (plist ys).all wtOk && isKs7 zs && movB ms xs ys) = true := by unfold mvT; exact decide_eq_true_iff
/-- The same, told. -/
noncomputable def spMovedT (ms : List Value) (f : FuncId) (args : Array Value) (h : AH) : Option (Bool × Value × AH) :=
  cond (Nat.beq f 8) (match args with
    | ⟨[.func (.yield 0) ⟨xs⟩ ⟨[]⟩, .func (.yield 0) ⟨ys⟩ ⟨[]⟩, .func (.yield 0) ⟨zs⟩ ⟨[]⟩]⟩ => some (mvT ms xs ys zs, .tuple ⟨[fz ⟨ms⟩, .int .i64 0]⟩, h)
    | _ => none) none
theorem spMovedT_ok (ms : List Value) : SpOK (spMovedT ms) := by
  intro f args h v h' hs
  unfold spMovedT at hs
  obtain ⟨hf, hs2⟩ := cond_some hs
  clear hs
  have := Nat.eq_of_beq_eq_true hf
  subst this
  split at hs2
  · injection hs2 with hs
    injection hs with hb hs
    injection hs with hv hh
    subst hv hh
    rw [mvT_eq] at hb
    simp only [Bool.and_eq_true] at hb
    obtain ⟨⟨⟨⟨⟨b1, b2⟩, b3⟩, b4⟩, b5⟩, b6⟩ := hb
    rw [isKs7_eq b5, ← movB_eq.1 b6]
    exact ⟨FnOK.pure (moved_fn _ _ b1 b2 b3 b4) rfl rfl h, Nat.le_refl _⟩
  · cases hs2

/-- One more is put somewhere among the others. -/
theorem foldO_add (k : ByteArray) (z : ByteArray × Int) : ∀ (l acc : List (ByteArray × Int)), foldO k acc (l ++ [z]) = insO k z (foldO k acc l)
  | [], _ => rfl
  | x :: l, acc => foldO_add k z l (insO k x acc)
theorem insO_split (k : ByteArray) (z : ByteArray × Int) : ∀ l, ∃ a b, l = a ++ b ∧ insO k z l = a ++ z :: b
  | [] => ⟨[], [], rfl, rfl⟩
  | y :: l => by
    have e : insO k z (y :: l) = cond (ltO k z y) (y :: insO k z l) (z :: y :: l) := rfl
    rw [e]
    cases ltO k z y with
    | false => exact ⟨[], y :: l, rfl, rfl⟩
    | true =>
      obtain ⟨a, b, h1, h2⟩ := insO_split k z l
      exact ⟨y :: a, b, by rw [h1]; rfl, by show y :: insO k z l = _; rw [h2]; rfl⟩
theorem sortO_add (k : ByteArray) (l : List (ByteArray × Int)) (z : ByteArray × Int) : ∃ p, p ≤ l.length ∧ sortO k (l ++ [z]) = (sortO k l).take p ++ z :: (sortO k l).drop p := by
  obtain ⟨a, b, h1, h2⟩ := insO_split k z (foldO k [] l)
  have e1 : sortO k (l ++ [z]) = b.reverse ++ z :: a.reverse := by
    unfold sortO
    rw [foldO_add, h2]
    simp
  have e2 : sortO k l = b.reverse ++ a.reverse := by
    unfold sortO
    rw [h1]
    simp
  refine ⟨b.length, ?_, ?_⟩
  · have := sortO_len k l
    rw [e2] at this
    simp at this
    omega
  · rw [e1, e2]
    have hl : b.length = b.reverse.length := by simp
    rw [hl, List.take_left, List.drop_left]
end Go.Proofs.YtbkccelgffopcaaGreatDoor
