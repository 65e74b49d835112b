/-
  Tokens stay: least, LeastScopes, Meet hand back rows of their own.
-/
import Derived.Test.YtklednomnpghcaaGreatDoorTsF
import Derived.Test.YtklednomnpghcaaGreatDoorScopeQ
namespace Go.Proofs.YtklednomnpghcaaGreatDoor
open Go.Ev Go.RowKit ScopeLaw

theorem subs_len : ∀ (F R : List (List UInt8)), R ∈ subs F → R.length ≤ F.length
  | [], R, h => by
    have : R = [] := by simpa [subs] using h
    subst this
    exact Nat.le_refl _
  | x :: F, R, h => by
    rw [subs, List.mem_append] at h
    rcases h with h | h
    · exact Nat.le_trans (subs_len F R h) (Nat.le_succ _)
    · obtain ⟨R', h1, rfl⟩ := List.mem_map.1 h
      exact Nat.succ_le_succ (subs_len F R' h1)
def RowS (n : Nat) (cs ys : List Value) : Prop := OKZ 9 1 n cs ∧ cs.all strV? = true ∧ cs.take n = ys
theorem le_row {vs : List Value} (hv : nineR vs = true) (h1 : 1 ≤ vs.length) : ∃ n c cs, RowOK 33 [fz ⟨vs⟩] (slB n c) cs 9 ∧ n ≤ c ∧ RowS n cs (leastV vs) := by
  obtain ⟨e, hin, h16, hs⟩ := nineR_ok hv
  have hne : rising (vs.map unS) ≠ [] := by
    intro q
    match vs, h1 with
    | v :: l, _ =>
      have := (rising_mem ((v :: l).map unS) (unS v)).2 (by simp)
      rw [q] at this
      cases this
  have hL := AllS_mem nineL [] lr_all _ (rising_nine hin)
  rw [List.nil_append] at hL
  have hF := FnOK.ftree (p := 0) (SL_ok (rising (vs.map unS))) mixed Tryz.func33 some33 (hL hne vs (fun v o => v = .slice (some ⟨2, 0, none⟩) (leastL covB (rising (vs.map unS))).length (rising (vs.map unS)).length ∧
      o = some (.cells ⟨(leastL covB (rising (vs.map unS)) ++ List.replicate ((rising (vs.map unS)).length - (leastL covB (rising (vs.map unS))).length) []).map scp⟩ 9 (0, 0))))
    (need_mk (risB_iff.2 ⟨by simp only [strR, Bool.and_eq_true, Nat.ble_eq]; exact ⟨hs, by omega⟩, h1, h16, rfl⟩) ⟨rfl, rfl⟩)
  have hle : (leastL covB (rising (vs.map unS))).length ≤ (rising (vs.map unS)).length := List.length_filter_le _ _
  have h9 : (rising (vs.map unS)).length ≤ 9 := subs_len nineL _ (rising_nine hin)
  refine ⟨(leastL covB (rising (vs.map unS))).length, (rising (vs.map unS)).length, (leastL covB (rising (vs.map unS)) ++ List.replicate ((rising (vs.map unS)).length - (leastL covB (rising (vs.map unS))).length) []).map scp, FnOK.mono hF ?_, hle, ⟨by omega, by simp, ?_⟩, ?_, ?_⟩
  · rintro v g ⟨rfl, hb⟩
    exact ⟨2, rfl, hb⟩
  · intro x hx
    obtain ⟨s, _, rfl⟩ := List.mem_map.1 hx
    rfl
  · rw [List.all_eq_true]
    intro x hx
    obtain ⟨s, _, rfl⟩ := List.mem_map.1 hx
    rfl
  · rw [List.map_append]
    exact List.take_left' (by simp)
/-! LeastScopes -/
noncomputable def SLr (vs : List Value) (n c : Nat) (cs : List Value) : SC := ⟨idn, spOr (spNrm spCk) (spR 33 [fz ⟨vs⟩] (slB n c) cs 9), true, true⟩
theorem lsR (vs : List Value) (n c : Nat) (cs : List Value) (Q : TQ) : ffn Tryz.prog (SLr vs n c cs) [] 1000 [] Tryz.f9 [fz ⟨vs⟩] h0 (fun v h => Q (slT v) (h.get (blkT v))) =
    cond (tenR vs) (cond (tq [fz ⟨vs⟩] [fz ⟨vs⟩]) (Q ((n, c, true), .int .i64 0) (some (.cells ⟨cs⟩ 9 (0, 0)))) False) False := by kernel_rfl
theorem lsN (Q : Value → Prop) : ffn Tryz.prog SP1 [] 1000 [] Tryz.f9 [.slice none 0 0] h0 (fun v _ => Q v) = Q (.tuple ⟨[.slice none 0 0, .int .i64 0]⟩) := by kernel_rfl
theorem someLSC : Tryz.f9.body.isSome = true := by kernel_rfl
/-- The same where nil comes of nil, and a row of a row. -/
def MadeX (f : FuncId) (X : Value) (xs : List Value) (t : TypeId) (m w : Nat) : Prop :=
  (X = .slice none 0 0 ∧ FnOK 0 Tryz.prog f ⟨xs⟩ h0 (fun v _ => v = .tuple ⟨[.slice none 0 0, .int .i64 0]⟩)) ∨ (X ≠ .slice none 0 0 ∧ ∃ n c cs, RowOK f xs (slE n c) cs t ∧ OKZ m w n cs)
theorem ls_made {X : Value} (h : okScs X = true) : MadeX 9 X [X] 9 9 1 := by
  unfold okScs at h
  split at h
  · exact .inl ⟨rfl, FnOK.ftree SP1_ok mixed Tryz.func9 someLSC (lsN (fun v => v = .tuple ⟨[.slice none 0 0, .int .i64 0]⟩)) rfl⟩
  · rename_i vs
    rw [Bool.and_eq_true, Nat.ble_eq] at h
    obtain ⟨hn, _⟩ := fourR_nine h.1
    obtain ⟨n, c, cs, h1, h2, h3, _⟩ := le_row hn h.2
    exact .inr ⟨fun q => (by simp [fz] at q), n, c, cs, row_of (FnOK.ftree (S := SLr vs n c cs) ((spCk_ok.nrm.or (spR_ok h1 rfl h3.2.2 (slB_ren n c))).cfg) mixed Tryz.func9 someLSC (lsR vs n c cs (fun s o => s = ((n, c, true), .int .i64 0) ∧ o = some (.cells ⟨cs⟩ 9 (0, 0)))) (need_mk (nineR_ten hn) (need_mk (tq_eq rfl) ⟨rfl, rfl⟩))), h3⟩
  · cases h
/-! Meet -/
noncomputable def SMr (ys : List Value) (n c : Nat) (es : List Value) : SC := ⟨idn, spOr spCk (spR 33 [fz ⟨ys⟩] (slB n c) es 9), true, true⟩
theorem meR (us bs cs ys es : List Value) (k n c : Nat) (C : List Value → AH → Prop) (Q : TQ) : (tfn Tryz.prog (SMr ys n c es) [] (hook1 6 (thenLS (hookLS 0 55 [1, 7, 19, 20, 21] [0] [7] (fun vals h K => C vals h ∧ K (.exit 0) [.slice (some ⟨0, 0, none⟩) k k] (blk cs))) (freezeG 55 false 1 [7]))) 300 [] Tryz.f11 [fz ⟨us⟩, fz ⟨bs⟩] h0 (fun v h => Q (slT v) (h.get (blkT v)))) =
    bif tenR us then bif tenR bs then
        C [fz ⟨bs⟩, Value.slice none 0 0, fz ⟨us⟩, Value.int IntKind.i64 ((Array.mk us).size : Int), Value.int IntKind.i64 0] { next := 0, low := 0, blocks := [] } ∧
          bif allS (sameSl 0 k k) (stOf 55 [7] [Value.slice (some { block := 0, off := 0 }) k k]) [7] && (Array.mk cs).toList.all p1 && k.ble k && (k * 1).ble (Array.mk cs).size && true then
            bif tq [fz ⟨chunk false 1 k (Array.mk cs).toList⟩] [fz ⟨ys⟩] then
              bif decide ((n : Int) > 50) then Q ((0, 0, false), .int .i64 2) none else Q ((n, c, true), .int .i64 0) (some (.cells ⟨es⟩ 9 (0, 0)))
            else False
          else False
      else False
    else False := by kernel_rfl
theorem meNN (Q : Value → Prop) : ffn Tryz.prog SP1 [] 3000 [] Tryz.f11 [.slice none 0 0, .slice none 0 0] h0 (fun v _ => Q v) = Q (.tuple ⟨[.slice none 0 0, .int .i64 0]⟩) := by kernel_rfl
theorem covS_self {s : ByteArray} (h : inTen s = true) : covS s s = true := by
  unfold covS
  exact cov_ten.refl _ (inTen_ok h)
theorem me_made {X : Value} (h : okScs X = true) : MadeX 11 X [X, X] 9 9 1 := by
  unfold okScs at h
  split at h
  · exact .inl ⟨rfl, FnOK.ftree SP1_ok mixed Tryz.func11 some11 (meNN (fun v => v = .tuple ⟨[.slice none 0 0, .int .i64 0]⟩)) rfl⟩
  · rename_i us
    rw [Bool.and_eq_true, Nat.ble_eq] at h
    obtain ⟨un, u4⟩ := fourR_nine h.1
    have ut := nineR_ten un
    have hC : ∀ out, mAll us us = out → LSpec 0 Tryz.prog 55 (oneLoop (codeOf Tryz.f11) 6) (hookLS 0 55 [1, 7, 19, 20, 21] [0] [7] (fun vals h K => (vals = [fz ⟨us⟩, .slice none 0 0, fz ⟨us⟩, .int .i64 (us.length : Int), .int .i64 0] ∧ h = h0) ∧ K (.exit 0) [outV out] (outH out))) := by
      rintro out rfl
      refine hookE_ok (sameX := [0]) mixed (by decide) ?_
      rintro vals h K ⟨⟨rfl, rfl⟩, hK⟩
      exact out_ex ut ut u4 K hK
    have hun := mAll_un us us
    have hlen := mAll_len us us
    have h44 : us.length * us.length ≤ 4 * 4 := Nat.mul_le_mul u4 u4
    cases ho : mAll us us with
    | nil =>
      exfalso
      match us, h.2, ho, ut with
      | u :: l, _, ho, ut =>
        have ht : inTen (toStr u) = true := (ten_at ut (i := 0) (by simp)).1
        rw [mAll_cons, mRow_t l (covS_self ht)] at ho
        simp at ho
    | cons k q =>
      rw [ho] at hun hlen
      have hch := chunk_str (k :: q)
      have hin : ∀ x ∈ (k :: q).map (fun s => s.data.toList), x ∈ nineL := by
        rw [hun]
        intro x hx
        obtain ⟨a, ha, b, hb2, hk⟩ := mem_meet.1 hx
        rcases hk with ⟨_, rfl⟩ | ⟨_, _, rfl⟩
        · exact (nineR_ok un).2.1 _ hb2
        · exact (nineR_ok un).2.1 _ ha
      have hy : nineR ((k :: q).map Value.string) = true := by rw [str_scp]; exact nineR_mk hin (by simp at hlen ⊢; omega)
      obtain ⟨n, c, es, r1, r2, r3, _⟩ := le_row hy (by simp)
      refine .inr ⟨fun q => (by simp [fz] at q), n, c, es, row_of (FnOK.ttree (S := SMr ((k :: q).map Value.string) n c es) ((spCk_ok.or (spR_ok r1 rfl r3.2.2 (slB_ren n c))).cfg) mixed Tryz.func11 some11 (loops_one one6 (thenLS_ok (hC (k :: q) ho) (freezeG_ok 0 Tryz.prog 55 false 1 [7])))
        (meR us us ((k :: q).map Value.string) ((k :: q).map Value.string) es (k :: q).length n c (fun vals h => vals = [fz ⟨us⟩, .slice none 0 0, fz ⟨us⟩, .int .i64 (us.length : Int), .int .i64 0] ∧ h = h0) (fun s o => s = ((n, c, true), .int .i64 0) ∧ o = some (.cells ⟨es⟩ 9 (0, 0)))) ?_), r3⟩
      refine need_mk ut (need_mk ut ⟨⟨rfl, rfl⟩, need_mk ?_ (need_mk (tq_eq ?_) (pick_f (decide_eq_false ?_) ⟨rfl, rfl⟩))⟩)
      · have a1 : allS (sameSl 0 (k :: q).length (k :: q).length) (stOf 55 [7] [Value.slice (some ⟨0, 0, none⟩) (k :: q).length (k :: q).length]) [7] = true := by
          show (sameSl 0 (k :: q).length (k :: q).length (Value.slice (some ⟨0, 0, none⟩) (k :: q).length (k :: q).length) && true) = true
          simp [sameSl]
        have a2 : ((k :: q).map Value.string).all p1 = true := by
          rw [List.all_eq_true]
          intro v hv
          obtain ⟨s, _, rfl⟩ := List.mem_map.1 hv
          rfl
        rw [a1, show (Array.mk ((k :: q).map Value.string)).toList.all p1 = true from a2]
        simp
      · rw [show (Array.mk ((k :: q).map Value.string)).toList = (k :: q).map Value.string from rfl, hch]
      · have := r3.1; omega
  · cases h
end Go.Proofs.YtklednomnpghcaaGreatDoor
