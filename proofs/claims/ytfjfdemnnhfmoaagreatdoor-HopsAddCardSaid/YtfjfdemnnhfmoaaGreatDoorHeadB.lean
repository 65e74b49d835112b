/-
  'CheckHeaders' and 'Values' for headers as they are drawn, told by plain functions.
-/
import Derived.Test.YtfjfdemnnhfmoaaGreatDoorHeadA
namespace Go.Proofs.YtfjfdemnnhfmoaaGreatDoor
open Go.Ev Go.RowKit

noncomputable def SH : SC := ⟨idn, spOr spTok spFld, true, false⟩
theorem SH_ok : SH.cfg.OK Tryz.prog := (SpOK.or spTok_ok spFld_ok).cfg
def SV : SC := ⟨idn, spNmd, true, true⟩
theorem SV_ok : SV.cfg.OK Tryz.prog := spNmd_ok.cfg
/-- A header as a value. -/
def hv (p : ByteArray × ByteArray) : Value := .agg ⟨[.string p.1, .string p.2]⟩
theorem hv_get {l : List (ByteArray × ByteArray)} {i : Nat} {p : ByteArray × ByteArray} (h : l[i]? = some p) (d : Value) : (Array.mk (l.map hv)).toList.getD i d = hv p := by
  show (l.map hv).getD i d = hv p
  simp [List.getD, h]
theorem hv_0 (p : ByteArray × ByteArray) (d : Value) : toStr ((hv p).cells.toList.getD 0 d) = p.1 := rfl
theorem hv_1 (p : ByteArray × ByteArray) (d : Value) : toStr ((hv p).cells.toList.getD 1 d) = p.2 := rfl
def valuesL (k : ByteArray) (l : List (ByteArray × ByteArray)) : List ByteArray := (l.filter fun p => named p.1 k).map Prod.snd
theorem drop_some {l : List (ByteArray × ByteArray)} {i : Nat} {p : ByteArray × ByteArray} (h : l[i]? = some p) : l.drop i = p :: l.drop (i + 1) := by
  obtain ⟨hi, h⟩ := List.getElem?_eq_some_iff.1 h
  rw [List.drop_eq_getElem_cons hi, h]

section
variable {F : Nat → List Value → AH → (AExit → List Value → AH → Prop) → Prop} {K : AExit → List Value → AH → Prop} {l : List (ByteArray × ByteArray)} {n : Int}
theorem ch_loop
    (hF : ∀ (m : Nat) (i : Int), F (m + 1) [fz ⟨l.map hv⟩, .int .i64 n, .int .i64 i] h0 K =
    bif decide (i < n) then
      bif decide (0 ≤ i) && decide (i < ((Array.mk (l.map hv)).size : Int)) && true then
        (Array.mk (l.map hv)).toList.getD i.toNat (Value.tuple { toList := [] }) =
            Value.agg
              {
                toList :=
                  [Value.string
                      (toStr
                        (((Array.mk (l.map hv)).toList.getD i.toNat undef).cells.toList.getD 0 (Value.tuple { toList := [] }))),
                    Value.string
                      (toStr
                        (((Array.mk (l.map hv)).toList.getD i.toNat undef).cells.toList.getD 1
                          (Value.tuple { toList := [] })))] } ∧
          bif
              inU namesU
                (toStr
                  (((Array.mk (l.map hv)).toList.getD i.toNat undef).cells.toList.getD 0 (Value.tuple { toList := [] }))) then
            bif
                okVal
                  (toStr
                    (((Array.mk (l.map hv)).toList.getD i.toNat undef).cells.toList.getD 1 (Value.tuple { toList := [] }))) then
              (fun v g => F m v g K)
                [Value.func (Fn.yield 0) { toList := (l.map hv) } { toList := [] }, Value.int IntKind.i64 n,
                  Value.int IntKind.i64 (IntKind.i64.wrap (i + 1))]
                { next := 0, low := 0, blocks := [] }
            else False
          else False
      else False
    else K (AExit.exit 0) [] { next := 0, low := 0, blocks := [] })
    (hl : (l.length : Int) = n) (hn : n ≤ 4000) (hok : ∀ p ∈ l, inU namesU p.1 = true ∧ okVal p.2 = true) (hK : K (.exit 0) [] h0) :
    ∀ (r i : Nat), (i : Int) + r = n → F (r + 1) [fz ⟨l.map hv⟩, .int .i64 n, .int .i64 i] h0 K := by
  intro r
  induction r with
  | zero =>
    intro i h4
    rw [hF]
    exact pick_f (by simp; omega) hK
  | succ r ih =>
    intro i h4
    rw [hF]
    have hi : i < l.length := by omega
    obtain ⟨p, hp⟩ : ∃ p, l[i]? = some p := ⟨l[i], by simp [hi]⟩
    have hm := hok p (List.mem_of_getElem? hp)
    rw [Int.toNat_natCast]
    simp only [hv_get hp, hv_0, hv_1]
    refine pick_t (by simp; omega) (need_mk (by simp; omega) ⟨rfl, need_mk hm.1 (need_mk hm.2 ?_)⟩)
    rw [wrap_id _ (by omega) (by omega)]
    exact ih (i + 1) (by omega)

variable {k : ByteArray}
theorem va_later
    (hF : ∀ (m : Nat) (i : Int) (ss : List Value) (j : Nat), F (m + 1) [.string k, .slice (some ⟨0, 0, none⟩) j j, fz ⟨l.map hv⟩, .int .i64 n, .int .i64 i] ⟨1, 1, [(0, .cells ⟨ss⟩ 9)]⟩ K =
    bif decide (i < n) then
      bif decide (0 ≤ i) && decide (i < ((Array.mk (l.map hv)).size : Int)) && true then
        (Array.mk (l.map hv)).toList.getD i.toNat (Value.tuple { toList := [] }) =
            Value.agg
              {
                toList :=
                  [Value.string
                      (toStr
                        (((Array.mk (l.map hv)).toList.getD i.toNat undef).cells.toList.getD 0 (Value.tuple { toList := [] }))),
                    Value.string
                      (toStr
                        (((Array.mk (l.map hv)).toList.getD i.toNat undef).cells.toList.getD 1
                          (Value.tuple { toList := [] })))] } ∧
          bif
              inU namesU
                  (toStr
                    (((Array.mk (l.map hv)).toList.getD i.toNat undef).cells.toList.getD 0 (Value.tuple { toList := [] }))) &&
                inU asksU k then
            bif
                named
                  (toStr (((Array.mk (l.map hv)).toList.getD i.toNat undef).cells.toList.getD 0 (Value.tuple { toList := [] })))
                  k then
              bif (j + 1).ble j then False
              else
                bif (j + 1).ble 9223372036854775807 && ((j + 1) * 16).ble 140737488355328 then
                  bif (0 + j * 1).ble (Array.mk ss).size && true && true then
                    NoNames
                        (Obj.cells
                          {
                            toList :=
                              List.take (j * 1) (List.drop 0 (Array.mk ss).toList) ++
                                [Value.string
                                    (toStr
                                      (((Array.mk (l.map hv)).toList.getD i.toNat undef).cells.toList.getD 1
                                        (Value.tuple { toList := [] })))] }
                          9 (0, 0)) ∧
                      (fun v g => F m v g K)
                        [Value.string k, Value.slice (some { block := 0, off := 0 }) (j + 1) (j + 1),
                          Value.func (Fn.yield 0) { toList := (l.map hv) } { toList := [] }, Value.int IntKind.i64 n,
                          Value.int IntKind.i64 (IntKind.i64.wrap (i + 1))]
                        { next := 1, low := 1,
                          blocks :=
                            [(0,
                                Obj.cells
                                  {
                                    toList :=
                                      List.take (j * 1) (List.drop 0 (Array.mk ss).toList) ++
                                        [Value.string
                                            (toStr
                                              (((Array.mk (l.map hv)).toList.getD i.toNat undef).cells.toList.getD 1
                                                (Value.tuple { toList := [] })))] }
                                  9 (0, 0))] }
                  else False
                else False
            else
              NoNames (Obj.cells { toList := ss } 9 (0, 0)) ∧
                (fun v g => F m v g K)
                  [Value.string k, Value.slice (some { block := 0, off := 0 }) j j,
                    Value.func (Fn.yield 0) { toList := (l.map hv) } { toList := [] }, Value.int IntKind.i64 n,
                    Value.int IntKind.i64 (IntKind.i64.wrap (i + 1))]
                  { next := 1, low := 1, blocks := [(0, Obj.cells { toList := ss } 9 (0, 0))] }
          else False
      else False
    else
      NoNames (Obj.cells { toList := ss } 9 (0, 0)) ∧
        K (AExit.exit 0) [Value.slice (some { block := 0, off := 0 }) j j]
          { next := 1, low := 1, blocks := [(0, Obj.cells { toList := ss } 9 (0, 0))] })
    (hl : (l.length : Int) = n) (hn : n ≤ 1000) (hk : inU asksU k = true) (hok : ∀ p ∈ l, inU namesU p.1 = true) :
    ∀ (r i : Nat) (ss : List Value) (j : Nat), (i : Int) + r = n → ss.length = j → j + r ≤ 4000 → (∀ v ∈ ss, p1 v = true) →
      K (.exit 0) [.slice (some ⟨0, 0, none⟩) (j + (valuesL k (l.drop i)).length) (j + (valuesL k (l.drop i)).length)] ⟨1, 1, [(0, .cells ⟨ss ++ (valuesL k (l.drop i)).map Value.string⟩ 9)]⟩ →
      F (r + 1) [.string k, .slice (some ⟨0, 0, none⟩) j j, fz ⟨l.map hv⟩, .int .i64 n, .int .i64 i] ⟨1, 1, [(0, .cells ⟨ss⟩ 9)]⟩ K := by
  intro r
  induction r with
  | zero =>
    intro i ss j h4 h5 h6 h7 h8
    rw [hF]
    rw [List.drop_eq_nil_of_le (by omega)] at h8
    refine pick_f (by simp; omega) ⟨h7, ?_⟩
    simpa [valuesL] using h8
  | succ r ih =>
    intro i ss j h4 h5 h6 h7 h8
    rw [hF]
    have hi : i < l.length := by omega
    obtain ⟨p, hp⟩ : ∃ p, l[i]? = some p := ⟨l[i], by simp [hi]⟩
    have hm := hok p (List.mem_of_getElem? hp)
    rw [drop_some hp] at h8
    rw [Int.toNat_natCast]
    simp only [hv_get hp, hv_0, hv_1]
    refine pick_t (by simp; omega) (need_mk (by simp; omega) ⟨rfl, need_mk (by rw [hm, hk]; rfl) ?_⟩)
    cases hb : named p.1 k with
    | true =>
      refine pick_t rfl (cut_mk (ble_ss j) (need_mk (ble_big j (by omega)) (need_mk (ble_len h5) ?_)))
      rw [take_ok h5]
      refine ⟨p1_app h7 p.2, ?_⟩
      rw [wrap_id _ (by omega) (by omega)]
      refine ih (i + 1) _ (j + 1) (by omega) (by simp [h5]) (by omega) (p1_app h7 p.2) ?_
      have e : valuesL k (p :: l.drop (i + 1)) = p.2 :: valuesL k (l.drop (i + 1)) := by simp [valuesL, hb]
      rw [e, List.length_cons, show j + ((valuesL k (l.drop (i + 1))).length + 1) = j + 1 + (valuesL k (l.drop (i + 1))).length by omega] at h8
      rw [List.append_assoc]
      exact h8
    | false =>
      refine pick_f rfl ⟨h7, ?_⟩
      rw [wrap_id _ (by omega) (by omega)]
      refine ih (i + 1) ss j (by omega) h5 (by omega) h7 ?_
      have e : valuesL k (p :: l.drop (i + 1)) = valuesL k (l.drop (i + 1)) := by simp [valuesL, hb]
      rw [e] at h8
      exact h8
theorem va_first
    (hF : ∀ (m : Nat) (i : Int) (ss : List Value) (j : Nat), F (m + 1) [.string k, .slice (some ⟨0, 0, none⟩) j j, fz ⟨l.map hv⟩, .int .i64 n, .int .i64 i] ⟨1, 1, [(0, .cells ⟨ss⟩ 9)]⟩ K =
    bif decide (i < n) then
      bif decide (0 ≤ i) && decide (i < ((Array.mk (l.map hv)).size : Int)) && true then
        (Array.mk (l.map hv)).toList.getD i.toNat (Value.tuple { toList := [] }) =
            Value.agg
              {
                toList :=
                  [Value.string
                      (toStr
                        (((Array.mk (l.map hv)).toList.getD i.toNat undef).cells.toList.getD 0 (Value.tuple { toList := [] }))),
                    Value.string
                      (toStr
                        (((Array.mk (l.map hv)).toList.getD i.toNat undef).cells.toList.getD 1
                          (Value.tuple { toList := [] })))] } ∧
          bif
              inU namesU
                  (toStr
                    (((Array.mk (l.map hv)).toList.getD i.toNat undef).cells.toList.getD 0 (Value.tuple { toList := [] }))) &&
                inU asksU k then
            bif
                named
                  (toStr (((Array.mk (l.map hv)).toList.getD i.toNat undef).cells.toList.getD 0 (Value.tuple { toList := [] })))
                  k then
              bif (j + 1).ble j then False
              else
                bif (j + 1).ble 9223372036854775807 && ((j + 1) * 16).ble 140737488355328 then
                  bif (0 + j * 1).ble (Array.mk ss).size && true && true then
                    NoNames
                        (Obj.cells
                          {
                            toList :=
                              List.take (j * 1) (List.drop 0 (Array.mk ss).toList) ++
                                [Value.string
                                    (toStr
                                      (((Array.mk (l.map hv)).toList.getD i.toNat undef).cells.toList.getD 1
                                        (Value.tuple { toList := [] })))] }
                          9 (0, 0)) ∧
                      (fun v g => F m v g K)
                        [Value.string k, Value.slice (some { block := 0, off := 0 }) (j + 1) (j + 1),
                          Value.func (Fn.yield 0) { toList := (l.map hv) } { toList := [] }, Value.int IntKind.i64 n,
                          Value.int IntKind.i64 (IntKind.i64.wrap (i + 1))]
                        { next := 1, low := 1,
                          blocks :=
                            [(0,
                                Obj.cells
                                  {
                                    toList :=
                                      List.take (j * 1) (List.drop 0 (Array.mk ss).toList) ++
                                        [Value.string
                                            (toStr
                                              (((Array.mk (l.map hv)).toList.getD i.toNat undef).cells.toList.getD 1
                                                (Value.tuple { toList := [] })))] }
                                  9 (0, 0))] }
                  else False
                else False
            else
              NoNames (Obj.cells { toList := ss } 9 (0, 0)) ∧
                (fun v g => F m v g K)
                  [Value.string k, Value.slice (some { block := 0, off := 0 }) j j,
                    Value.func (Fn.yield 0) { toList := (l.map hv) } { toList := [] }, Value.int IntKind.i64 n,
                    Value.int IntKind.i64 (IntKind.i64.wrap (i + 1))]
                  { next := 1, low := 1, blocks := [(0, Obj.cells { toList := ss } 9 (0, 0))] }
          else False
      else False
    else
      NoNames (Obj.cells { toList := ss } 9 (0, 0)) ∧
        K (AExit.exit 0) [Value.slice (some { block := 0, off := 0 }) j j]
          { next := 1, low := 1, blocks := [(0, Obj.cells { toList := ss } 9 (0, 0))] })
    (hA : ∀ (m : Nat) (i : Int), F (m + 1) [.string k, .slice none 0 0, fz ⟨l.map hv⟩, .int .i64 n, .int .i64 i] h0 K =
    bif decide (i < n) then
      bif decide (0 ≤ i) && decide (i < ((Array.mk (l.map hv)).size : Int)) && true then
        (Array.mk (l.map hv)).toList.getD i.toNat (Value.tuple { toList := [] }) =
            Value.agg
              {
                toList :=
                  [Value.string
                      (toStr
                        (((Array.mk (l.map hv)).toList.getD i.toNat undef).cells.toList.getD 0 (Value.tuple { toList := [] }))),
                    Value.string
                      (toStr
                        (((Array.mk (l.map hv)).toList.getD i.toNat undef).cells.toList.getD 1
                          (Value.tuple { toList := [] })))] } ∧
          bif
              inU namesU
                  (toStr
                    (((Array.mk (l.map hv)).toList.getD i.toNat undef).cells.toList.getD 0 (Value.tuple { toList := [] }))) &&
                inU asksU k then
            bif
                named
                  (toStr (((Array.mk (l.map hv)).toList.getD i.toNat undef).cells.toList.getD 0 (Value.tuple { toList := [] })))
                  k then
              NoNames
                  (Obj.cells
                    {
                      toList :=
                        [Value.string
                            (toStr
                              (((Array.mk (l.map hv)).toList.getD i.toNat undef).cells.toList.getD 1
                                (Value.tuple { toList := [] })))] }
                    9 (0, 0)) ∧
                (fun v g => F m v g K)
                  [Value.string k, Value.slice (some { block := 0, off := 0 }) 1 1,
                    Value.func (Fn.yield 0) { toList := (l.map hv) } { toList := [] }, Value.int IntKind.i64 n,
                    Value.int IntKind.i64 (IntKind.i64.wrap (i + 1))]
                  { next := 1, low := 1,
                    blocks :=
                      [(0,
                          Obj.cells
                            {
                              toList :=
                                [Value.string
                                    (toStr
                                      (((Array.mk (l.map hv)).toList.getD i.toNat undef).cells.toList.getD 1
                                        (Value.tuple { toList := [] })))] }
                            9 (0, 0))] }
            else
              (fun v g => F m v g K)
                [Value.string k, Value.slice none 0 0, Value.func (Fn.yield 0) { toList := (l.map hv) } { toList := [] },
                  Value.int IntKind.i64 n, Value.int IntKind.i64 (IntKind.i64.wrap (i + 1))]
                { next := 0, low := 0, blocks := [] }
          else False
      else False
    else K (AExit.exit 0) [Value.slice none 0 0] { next := 0, low := 0, blocks := [] })
    (hl : (l.length : Int) = n) (hn : n ≤ 1000) (hk : inU asksU k = true) (hok : ∀ p ∈ l, inU namesU p.1 = true) :
    ∀ (r i : Nat), (i : Int) + r = n →
      cond (valuesL k (l.drop i)).isEmpty (K (.exit 0) [.slice none 0 0] h0)
        (K (.exit 0) [.slice (some ⟨0, 0, none⟩) (valuesL k (l.drop i)).length (valuesL k (l.drop i)).length] ⟨1, 1, [(0, .cells ⟨(valuesL k (l.drop i)).map Value.string⟩ 9)]⟩) →
      F (r + 1) [.string k, .slice none 0 0, fz ⟨l.map hv⟩, .int .i64 n, .int .i64 i] h0 K := by
  intro r
  induction r with
  | zero =>
    intro i h4 h8
    rw [hA]
    rw [List.drop_eq_nil_of_le (by omega)] at h8
    exact pick_f (by simp; omega) h8
  | succ r ih =>
    intro i h4 h8
    rw [hA]
    have hi : i < l.length := by omega
    obtain ⟨p, hp⟩ : ∃ p, l[i]? = some p := ⟨l[i], by simp [hi]⟩
    have hm := hok p (List.mem_of_getElem? hp)
    rw [drop_some hp] at h8
    rw [Int.toNat_natCast]
    simp only [hv_get hp, hv_0, hv_1]
    refine pick_t (by simp; omega) (need_mk (by simp; omega) ⟨rfl, need_mk (by rw [hm, hk]; rfl) ?_⟩)
    cases hb : named p.1 k with
    | true =>
      refine pick_t rfl ⟨p1_app (ss := []) (fun _ q => (by cases q)) p.2, ?_⟩
      rw [wrap_id _ (by omega) (by omega)]
      refine va_later hF hl hn hk hok r (i + 1) [.string p.2] 1 (by omega) rfl (by omega) (fun v q => by rw [List.mem_singleton.1 q]; rfl) ?_
      have e : valuesL k (p :: l.drop (i + 1)) = p.2 :: valuesL k (l.drop (i + 1)) := by simp [valuesL, hb]
      rw [e, List.length_cons, Nat.add_comm (valuesL k (l.drop (i + 1))).length 1] at h8
      exact h8
    | false =>
      refine pick_f rfl ?_
      rw [wrap_id _ (by omega) (by omega)]
      refine ih (i + 1) (by omega) ?_
      have e : valuesL k (p :: l.drop (i + 1)) = valuesL k (l.drop (i + 1)) := by simp [valuesL, hb]
      rw [e] at h8
      exact h8
end
theorem cho (xs : List Value) (n i : Int) (B : List Value → AH → Prop) (Q : AExit → List Value → AH → Prop) : (once 0 Tryz.prog SH [] noHooks 100 23 [8, 9, 10] [] [] [] (oneLoop (codeOf Tryz.f102) 4) [fz ⟨xs⟩, .int .i64 n, .int .i64 i] h0 B Q) =
    bif decide (i < n) then
      bif decide (0 ≤ i) && decide (i < ((Array.mk xs).size : Int)) && true then
        (Array.mk xs).toList.getD i.toNat (Value.tuple { toList := [] }) =
            Value.agg
              {
                toList :=
                  [Value.string
                      (toStr
                        (((Array.mk xs).toList.getD i.toNat undef).cells.toList.getD 0 (Value.tuple { toList := [] }))),
                    Value.string
                      (toStr
                        (((Array.mk xs).toList.getD i.toNat undef).cells.toList.getD 1
                          (Value.tuple { toList := [] })))] } ∧
          bif
              inU namesU
                (toStr
                  (((Array.mk xs).toList.getD i.toNat undef).cells.toList.getD 0 (Value.tuple { toList := [] }))) then
            bif
                okVal
                  (toStr
                    (((Array.mk xs).toList.getD i.toNat undef).cells.toList.getD 1 (Value.tuple { toList := [] }))) then
              B
                [Value.func (Fn.yield 0) { toList := xs } { toList := [] }, Value.int IntKind.i64 n,
                  Value.int IntKind.i64 (IntKind.i64.wrap (i + 1))]
                { next := 0, low := 0, blocks := [] }
            else False
          else False
      else False
    else Q (AExit.exit 0) [] { next := 0, low := 0, blocks := [] } := by kernel_rfl
theorem voa (k : ByteArray) (xs : List Value) (n i : Int) (B : List Value → AH → Prop) (Q : AExit → List Value → AH → Prop) : (once 0 Tryz.prog SV [] noHooks 100 24 [1, 5, 8, 9, 10] [0] [5] [0] (oneLoop (codeOf Tryz.f61) 3) [.string k, .slice none 0 0, fz ⟨xs⟩, .int .i64 n, .int .i64 i] h0 B Q) =
    bif decide (i < n) then
      bif decide (0 ≤ i) && decide (i < ((Array.mk xs).size : Int)) && true then
        (Array.mk xs).toList.getD i.toNat (Value.tuple { toList := [] }) =
            Value.agg
              {
                toList :=
                  [Value.string
                      (toStr
                        (((Array.mk xs).toList.getD i.toNat undef).cells.toList.getD 0 (Value.tuple { toList := [] }))),
                    Value.string
                      (toStr
                        (((Array.mk xs).toList.getD i.toNat undef).cells.toList.getD 1
                          (Value.tuple { toList := [] })))] } ∧
          bif
              inU namesU
                  (toStr
                    (((Array.mk xs).toList.getD i.toNat undef).cells.toList.getD 0 (Value.tuple { toList := [] }))) &&
                inU asksU k then
            bif
                named
                  (toStr (((Array.mk xs).toList.getD i.toNat undef).cells.toList.getD 0 (Value.tuple { toList := [] })))
                  k then
              NoNames
                  (Obj.cells
                    {
                      toList :=
                        [Value.string
                            (toStr
                              (((Array.mk xs).toList.getD i.toNat undef).cells.toList.getD 1
                                (Value.tuple { toList := [] })))] }
                    9 (0, 0)) ∧
                B
                  [Value.string k, Value.slice (some { block := 0, off := 0 }) 1 1,
                    Value.func (Fn.yield 0) { toList := xs } { toList := [] }, Value.int IntKind.i64 n,
                    Value.int IntKind.i64 (IntKind.i64.wrap (i + 1))]
                  { next := 1, low := 1,
                    blocks :=
                      [(0,
                          Obj.cells
                            {
                              toList :=
                                [Value.string
                                    (toStr
                                      (((Array.mk xs).toList.getD i.toNat undef).cells.toList.getD 1
                                        (Value.tuple { toList := [] })))] }
                            9 (0, 0))] }
            else
              B
                [Value.string k, Value.slice none 0 0, Value.func (Fn.yield 0) { toList := xs } { toList := [] },
                  Value.int IntKind.i64 n, Value.int IntKind.i64 (IntKind.i64.wrap (i + 1))]
                { next := 0, low := 0, blocks := [] }
          else False
      else False
    else Q (AExit.exit 0) [Value.slice none 0 0] { next := 0, low := 0, blocks := [] } := by kernel_rfl
theorem vob (k : ByteArray) (xs ss : List Value) (j : Nat) (n i : Int) (B : List Value → AH → Prop) (Q : AExit → List Value → AH → Prop) : (once 0 Tryz.prog SV [] noHooks 100 24 [1, 5, 8, 9, 10] [0] [5] [0] (oneLoop (codeOf Tryz.f61) 3) [.string k, .slice (some ⟨0, 0, none⟩) j j, fz ⟨xs⟩, .int .i64 n, .int .i64 i] ⟨1, 1, [(0, .cells ⟨ss⟩ 9)]⟩ B Q) =
    bif decide (i < n) then
      bif decide (0 ≤ i) && decide (i < ((Array.mk xs).size : Int)) && true then
        (Array.mk xs).toList.getD i.toNat (Value.tuple { toList := [] }) =
            Value.agg
              {
                toList :=
                  [Value.string
                      (toStr
                        (((Array.mk xs).toList.getD i.toNat undef).cells.toList.getD 0 (Value.tuple { toList := [] }))),
                    Value.string
                      (toStr
                        (((Array.mk xs).toList.getD i.toNat undef).cells.toList.getD 1
                          (Value.tuple { toList := [] })))] } ∧
          bif
              inU namesU
                  (toStr
                    (((Array.mk xs).toList.getD i.toNat undef).cells.toList.getD 0 (Value.tuple { toList := [] }))) &&
                inU asksU k then
            bif
                named
                  (toStr (((Array.mk xs).toList.getD i.toNat undef).cells.toList.getD 0 (Value.tuple { toList := [] })))
                  k then
              bif (j + 1).ble j then False
              else
                bif (j + 1).ble 9223372036854775807 && ((j + 1) * 16).ble 140737488355328 then
                  bif (0 + j * 1).ble (Array.mk ss).size && true && true then
                    NoNames
                        (Obj.cells
                          {
                            toList :=
                              List.take (j * 1) (List.drop 0 (Array.mk ss).toList) ++
                                [Value.string
                                    (toStr
                                      (((Array.mk xs).toList.getD i.toNat undef).cells.toList.getD 1
                                        (Value.tuple { toList := [] })))] }
                          9 (0, 0)) ∧
                      B
                        [Value.string k, Value.slice (some { block := 0, off := 0 }) (j + 1) (j + 1),
                          Value.func (Fn.yield 0) { toList := xs } { toList := [] }, Value.int IntKind.i64 n,
                          Value.int IntKind.i64 (IntKind.i64.wrap (i + 1))]
                        { next := 1, low := 1,
                          blocks :=
                            [(0,
                                Obj.cells
                                  {
                                    toList :=
                                      List.take (j * 1) (List.drop 0 (Array.mk ss).toList) ++
                                        [Value.string
                                            (toStr
                                              (((Array.mk xs).toList.getD i.toNat undef).cells.toList.getD 1
                                                (Value.tuple { toList := [] })))] }
                                  9 (0, 0))] }
                  else False
                else False
            else
              NoNames (Obj.cells { toList := ss } 9 (0, 0)) ∧
                B
                  [Value.string k, Value.slice (some { block := 0, off := 0 }) j j,
                    Value.func (Fn.yield 0) { toList := xs } { toList := [] }, Value.int IntKind.i64 n,
                    Value.int IntKind.i64 (IntKind.i64.wrap (i + 1))]
                  { next := 1, low := 1, blocks := [(0, Obj.cells { toList := ss } 9 (0, 0))] }
          else False
      else False
    else
      NoNames (Obj.cells { toList := ss } 9 (0, 0)) ∧
        Q (AExit.exit 0) [Value.slice (some { block := 0, off := 0 }) j j]
          { next := 1, low := 1, blocks := [(0, Obj.cells { toList := ss } 9 (0, 0))] } := by kernel_rfl

end Go.Proofs.YtfjfdemnnhfmoaaGreatDoor
