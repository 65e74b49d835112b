/-
  'CheckHeaders', 'Values' and 'set' for headers as they are drawn, as specifications.
-/
import Derived.Test.YtfjfdemnnhfmoaaGreatDoorHeadB
namespace Go.Proofs.YtfjfdemnnhfmoaaGreatDoor
open Go.Ev Go.RowKit

def hc (p : ByteArray × ByteArray) : List Value := [.string p.1, .string p.2]
theorem hc_len : ∀ l : List (ByteArray × ByteArray), (l.flatMap hc).length = l.length * 2
  | [] => rfl
  | p :: l => by
    rw [List.flatMap_cons, List.length_append, hc_len l, List.length_cons]
    show 2 + l.length * 2 = (l.length + 1) * 2
    omega
theorem hc_p1 (l : List (ByteArray × ByteArray)) : ∀ v ∈ l.flatMap hc, p1 v = true := by
  intro v hv
  obtain ⟨p, _, hp⟩ := List.mem_flatMap.1 hv
  simp only [hc, List.mem_cons, List.not_mem_nil, or_false] at hp
  rcases hp with rfl | rfl <;> rfl
theorem hc_get : ∀ (l : List (ByteArray × ByteArray)) (i j : Nat) (x v : Value), (l.map hv)[i]? = some x → x.cells[j]? = some v → (l.flatMap hc)[i * 2 + j]? = some v
  | [], i, j, x, v, h, _ => by simp at h
  | p :: l, 0, j, x, v, h, h2 => by
    simp only [List.map_cons, List.getElem?_cons_zero, Option.some.injEq] at h
    subst h
    simp only [hv, Value.cells] at h2
    match j, h2 with
    | 0, h2 => simpa [hc] using h2
    | 1, h2 => simpa [hc] using h2
    | j + 2, h2 => simp at h2
  | p :: l, i + 1, j, x, v, h, h2 => by
    have := hc_get l i j x v (by simpa using h) h2
    simp only [List.flatMap_cons, hc]
    rw [show (i + 1) * 2 + j = (i * 2 + j) + 1 + 1 by omega]
    simpa [hc] using this
theorem freezeH {p : Nat} {P : Program} {h : AH} {b : Nat} {t : TypeId} {fr : Nat × Nat} (l : List (ByteArray × ByteArray)) {m : Nat} (hm : l.length = m) (hb : h.get b = some (.cells ⟨l.flatMap hc⟩ t fr)) :
    Weak p P #[.slice (some ⟨b, 0, none⟩) m m] h #[fz ⟨l.map hv⟩] (h.del b) := by
  subst hm
  refine Weak.freeze (n := l.length) (cap := l.length) b 2 ⟨l.map hv⟩ hb (hc_p1 l) (by simp) (Nat.le_refl _) ?_ ?_ ?_ rfl ?_
  · have := hc_len l
    show l.length * 2 ≤ (l.flatMap hc).length
    omega
  · intro i x hx
    have hx : (l.map hv)[i]? = some x := by simpa using hx
    rw [List.getElem?_map] at hx
    obtain ⟨q, _, rfl⟩ := Option.map_eq_some_iff.1 hx
    rfl
  · intro i j x v hx hv
    have := hc_get l i j x v (by simpa using hx) hv
    simpa using this
  · intro i
    cases i with
    | zero => exact .inr ⟨rfl, rfl⟩
    | succ i => exact .inl (by simp)
theorem one102 : (loopAt (codeOf Tryz.f102) 4).length = 1 := by kernel_rfl
theorem some102 : Tryz.f102.body.isSome = true := by kernel_rfl
theorem one61 : (loopAt (codeOf Tryz.f61) 3).length = 1 := by kernel_rfl
theorem some61 : Tryz.f61.body.isSome = true := by kernel_rfl
theorem one68 : (loopAt (codeOf Tryz.f68) 4).length = 1 := by kernel_rfl
theorem some68 : Tryz.f68.body.isSome = true := by kernel_rfl
theorem chf (xs : List Value) (C : List Value → AH → Prop) (Q : Value → AH → Prop) : (tfn Tryz.prog SH [] (hook1 4 (hookLS 0 23 [8, 9, 10] [] [] (fun vals h K => C vals h ∧ K (.exit 0) [] h0))) 200 [] Tryz.f102 [fz ⟨xs⟩] h0 Q) =
    bif decide (((Array.mk xs).size : Int) > 50) then Q (Value.int IntKind.i64 2) { next := 0, low := 0, blocks := [] }
    else
      C
          [Value.func (Fn.yield 0) { toList := xs } { toList := [] }, Value.int IntKind.i64 ((Array.mk xs).size : Int),
            Value.int IntKind.i64 0]
          { next := 0, low := 0, blocks := [] } ∧
        Q (Value.int IntKind.i64 0) { next := 0, low := 0, blocks := [] } := by kernel_rfl

theorem vaf (k : ByteArray) (r : Bool) (j : Nat) (xs ts : List Value) (C : List Value → AH → Prop) (Q : Value → AH → Prop) : (tfn Tryz.prog SV [] (hook1 3 (hookLS 0 24 [1, 5, 8, 9, 10] [0] [5] (fun vals h K => C vals h ∧ cond r (K (.exit 0) [.slice none 0 0] h0) (K (.exit 0) [.slice (some ⟨0, 0, none⟩) j j] ⟨1, 1, [(0, .cells ⟨ts⟩ 9)]⟩)))) 200 [] Tryz.f61 [fz ⟨xs⟩, .string k] h0 Q) =
    (C
        [Value.string k, Value.slice none 0 0, Value.func (Fn.yield 0) { toList := xs } { toList := [] },
          Value.int IntKind.i64 ((Array.mk xs).size : Int), Value.int IntKind.i64 0]
        { next := 0, low := 0, blocks := [] } ∧
      bif r then Q (Value.slice none 0 0) { next := 0, low := 0, blocks := [] }
      else
        Q (Value.slice (some { block := 0, off := 0 }) j j)
          { next := 1, low := 1, blocks := [(0, Obj.cells { toList := ts } 9 (0, 0))] }) := by kernel_rfl

theorem ch_fn (l : List (ByteArray × ByteArray)) (h : l.length ≤ 50) (hok : ∀ p ∈ l, inU namesU p.1 = true ∧ okVal p.2 = true) : FnOK 0 Tryz.prog 102 ⟨[fz ⟨l.map hv⟩]⟩ h0 (fun v _ => v = .int .i64 0) := by
  have hC : LSpec 0 Tryz.prog 23 (oneLoop (codeOf Tryz.f102) 4) (hookLS 0 23 [8, 9, 10] [] [] (fun vals h K => (vals = [fz ⟨l.map hv⟩, .int .i64 (l.length : Int), .int .i64 0] ∧ h = h0) ∧ K (.exit 0) [] h0)) := by
    refine hook_ok (G := []) (L := noHooks) (f := 100) (sameX := []) SH_ok mixed (by decide) (loops_none _ _ _ _) ?_
    rintro vals h K ⟨⟨rfl, rfl⟩, hK⟩
    exact ⟨l.length + 1, ch_loop (F := iter 0 Tryz.prog SH [] noHooks 100 23 [8, 9, 10] [] [] [] (oneLoop (codeOf Tryz.f102) 4)) (K := K) (fun m i => cho (l.map hv) _ i _ K) rfl (by omega) hok hK l.length 0 (by simp)⟩
  refine FnOK.ttree SH_ok mixed Tryz.func102 some102 (loops_one one102 hC) (chf (l.map hv) (fun vals h => vals = [fz ⟨l.map hv⟩, .int .i64 (l.length : Int), .int .i64 0] ∧ h = h0) _) ?_
  refine pick_f (by simp; omega) ⟨⟨?_, rfl⟩, rfl⟩
  show [fz ⟨l.map hv⟩, .int .i64 (((l.map hv).length : Nat) : Int), .int .i64 0] = _
  rw [List.length_map]
theorem va_fn (l : List (ByteArray × ByteArray)) (k : ByteArray) (h : l.length ≤ 50) (hk : inU asksU k = true) (hok : ∀ p ∈ l, inU namesU p.1 = true) :
    FnOK 0 Tryz.prog 61 ⟨[fz ⟨l.map hv⟩, .string k]⟩ h0 (fun v _ => v = fz ⟨(valuesL k l).map Value.string⟩) := by
  have hC : LSpec 0 Tryz.prog 24 (oneLoop (codeOf Tryz.f61) 3) (hookLS 0 24 [1, 5, 8, 9, 10] [0] [5] (fun vals h K => (vals = [.string k, .slice none 0 0, fz ⟨l.map hv⟩, .int .i64 (l.length : Int), .int .i64 0] ∧ h = h0) ∧
      cond (valuesL k l).isEmpty (K (.exit 0) [.slice none 0 0] h0) (K (.exit 0) [.slice (some ⟨0, 0, none⟩) (valuesL k l).length (valuesL k l).length] ⟨1, 1, [(0, .cells ⟨(valuesL k l).map Value.string⟩ 9)]⟩))) := by
    refine hook_ok (G := []) (L := noHooks) (f := 100) (sameX := [0]) SV_ok mixed (by decide) (loops_none _ _ _ _) ?_
    rintro vals h K ⟨⟨rfl, rfl⟩, hK⟩
    exact ⟨l.length + 1, va_first (F := iter 0 Tryz.prog SV [] noHooks 100 24 [1, 5, 8, 9, 10] [0] [5] [0] (oneLoop (codeOf Tryz.f61) 3)) (K := K) (fun m i ss j => vob k (l.map hv) ss j _ i _ K) (fun m i => voa k (l.map hv) _ i _ K) rfl (by omega) hk hok l.length 0 (by simp) hK⟩
  refine FnOK.weak1 (FnOK.ttree SV_ok mixed Tryz.func61 some61 (loops_one one61 hC) (vaf k (valuesL k l).isEmpty (valuesL k l).length (l.map hv) ((valuesL k l).map Value.string) (fun vals h => vals = [.string k, .slice none 0 0, fz ⟨l.map hv⟩, .int .i64 (l.length : Int), .int .i64 0] ∧ h = h0) _) ?_)
  refine ⟨⟨?_, rfl⟩, ?_⟩
  · show [.string k, .slice none 0 0, fz ⟨l.map hv⟩, .int .i64 (((l.map hv).length : Nat) : Int), .int .i64 0] = _
    rw [List.length_map]
  · cases he : (valuesL k l).isEmpty with
    | true =>
      have : valuesL k l = [] := by simpa using he
      rw [this]
      exact ⟨_, _, nil1, rfl⟩
    | false => exact ⟨_, _, freeze1 _ rfl rfl, rfl⟩

/-- A list with a header set: what is done so far, and whether the name was met. -/
def setR (k x : ByteArray) : List (ByteArray × ByteArray) → Bool → List (ByteArray × ByteArray) × Bool
  | [], d => ([], d)
  | p :: l, d => cond (named p.1 k) (cond d (setR k x l d) ((p.1, x) :: (setR k x l true).1, (setR k x l true).2)) (p :: (setR k x l d).1, (setR k x l d).2)
def setL (k x : ByteArray) (l : List (ByteArray × ByteArray)) : List (ByteArray × ByteArray) := cond (setR k x l false).2 (setR k x l false).1 ((setR k x l false).1 ++ [(k, x)])
theorem setR_len (k x : ByteArray) : ∀ (l : List (ByteArray × ByteArray)) (d : Bool), (setR k x l d).1.length ≤ l.length
  | [], d => by simp [setR]
  | p :: l, d => by
    have h1 := setR_len k x l d
    have h2 := setR_len k x l true
    simp only [setR]
    cases named p.1 k <;> cases d <;> simp only [cond_true, cond_false, List.length_cons] <;> simp_all <;> omega
theorem big2 (j : Nat) (h : j ≤ 4000) : ((j + 1).ble 9223372036854775807 && ((j + 1) * 32).ble 140737488355328) = true := by
  rw [Bool.and_eq_true, Nat.ble_eq, Nat.ble_eq]; omega
theorem len2 {kept : List (ByteArray × ByteArray)} {j : Nat} (h : kept.length = j) : ((0 + j * 2).ble (Array.mk (kept.flatMap hc)).size && true && true) = true := by
  have : (0 + j * 2).ble (Array.mk (kept.flatMap hc)).size = true := by
    rw [Nat.ble_eq]
    show 0 + j * 2 ≤ (kept.flatMap hc).length
    rw [hc_len]; omega
  rw [this]; rfl
theorem take2 {kept : List (ByteArray × ByteArray)} {j : Nat} (h : kept.length = j) (a b : ByteArray) : List.take (j * 2) (List.drop 0 (Array.mk (kept.flatMap hc)).toList) ++ [Value.string a, Value.string b] = (kept ++ [(a, b)]).flatMap hc := by
  have : List.take (j * 2) (List.drop 0 (Array.mk (kept.flatMap hc)).toList) = kept.flatMap hc := by
    rw [List.drop_zero]
    apply List.take_of_length_le
    show (kept.flatMap hc).length ≤ j * 2
    rw [hc_len]; omega
  rw [this, List.flatMap_append]
  rfl
section
variable {F : Nat → List Value → AH → (AExit → List Value → AH → Prop) → Prop} {K : AExit → List Value → AH → Prop} {l : List (ByteArray × ByteArray)} {n : Int} {k x : ByteArray}
theorem se_later
    (hF : ∀ (m : Nat) (d : Bool) (i : Int) (ss : List Value) (j : Nat), F (m + 1) [.string k, .string x, .slice (some ⟨0, 0, none⟩) j j, .bool d, fz ⟨l.map hv⟩, .int .i64 n, .int .i64 i] ⟨1, 1, [(0, .cells ⟨ss⟩ 99)]⟩ K =
    bif decide (i < n) then
      bif decide (0 ≤ i) && decide (i < ((Array.mk (l.map hv)).size : Int)) && true then
        (Array.mk (l.map hv)).toList.getD i.toNat (Value.tuple { toList := [] }) =
            Value.agg
              {
                toList :=
                  [Value.string
                      (toStr
                        (((Array.mk (l.map hv)).toList.getD i.toNat undef).cells.toList.getD 0 (Value.tuple { toList := [] }))),
                    Value.string
                      (toStr
                        (((Array.mk (l.map hv)).toList.getD i.toNat undef).cells.toList.getD 1
                          (Value.tuple { toList := [] })))] } ∧
          bif
              inU namesU
                  (toStr
                    (((Array.mk (l.map hv)).toList.getD i.toNat undef).cells.toList.getD 0 (Value.tuple { toList := [] }))) &&
                inU asksU k then
            bif
                !named
                    (toStr
                      (((Array.mk (l.map hv)).toList.getD i.toNat undef).cells.toList.getD 0 (Value.tuple { toList := [] })))
                    k then
              bif (j + 1).ble j then False
              else
                bif (j + 1).ble 9223372036854775807 && ((j + 1) * 32).ble 140737488355328 then
                  bif (0 + j * 2).ble (Array.mk ss).size && true && true then
                    NoNames
                        (Obj.cells
                          {
                            toList :=
                              List.take (j * 2) (List.drop 0 (Array.mk ss).toList) ++
                                [Value.string
                                    (toStr
                                      (((Array.mk (l.map hv)).toList.getD i.toNat undef).cells.toList.getD 0
                                        (Value.tuple { toList := [] }))),
                                  Value.string
                                    (toStr
                                      (((Array.mk (l.map hv)).toList.getD i.toNat undef).cells.toList.getD 1
                                        (Value.tuple { toList := [] })))] }
                          99 (0, 0)) ∧
                      (fun v g => F m v g K)
                        [Value.string k, Value.string x, Value.slice (some { block := 0, off := 0 }) (j + 1) (j + 1),
                          Value.bool d, Value.func (Fn.yield 0) { toList := (l.map hv) } { toList := [] }, Value.int IntKind.i64 n,
                          Value.int IntKind.i64 (IntKind.i64.wrap (i + 1))]
                        { next := 1, low := 1,
                          blocks :=
                            [(0,
                                Obj.cells
                                  {
                                    toList :=
                                      List.take (j * 2) (List.drop 0 (Array.mk ss).toList) ++
                                        [Value.string
                                            (toStr
                                              (((Array.mk (l.map hv)).toList.getD i.toNat undef).cells.toList.getD 0
                                                (Value.tuple { toList := [] }))),
                                          Value.string
                                            (toStr
                                              (((Array.mk (l.map hv)).toList.getD i.toNat undef).cells.toList.getD 1
                                                (Value.tuple { toList := [] })))] }
                                  99 (0, 0))] }
                  else False
                else False
            else
              bif !d then
                bif (j + 1).ble j then False
                else
                  bif (j + 1).ble 9223372036854775807 && ((j + 1) * 32).ble 140737488355328 then
                    bif (0 + j * 2).ble (Array.mk ss).size && true && true then
                      NoNames
                          (Obj.cells
                            {
                              toList :=
                                List.take (j * 2) (List.drop 0 (Array.mk ss).toList) ++
                                  [Value.string
                                      (toStr
                                        (((Array.mk (l.map hv)).toList.getD i.toNat undef).cells.toList.getD 0
                                          (Value.tuple { toList := [] }))),
                                    Value.string x] }
                            99 (0, 0)) ∧
                        (fun v g => F m v g K)
                          [Value.string k, Value.string x, Value.slice (some { block := 0, off := 0 }) (j + 1) (j + 1),
                            Value.bool true, Value.func (Fn.yield 0) { toList := (l.map hv) } { toList := [] },
                            Value.int IntKind.i64 n, Value.int IntKind.i64 (IntKind.i64.wrap (i + 1))]
                          { next := 1, low := 1,
                            blocks :=
                              [(0,
                                  Obj.cells
                                    {
                                      toList :=
                                        List.take (j * 2) (List.drop 0 (Array.mk ss).toList) ++
                                          [Value.string
                                              (toStr
                                                (((Array.mk (l.map hv)).toList.getD i.toNat undef).cells.toList.getD 0
                                                  (Value.tuple { toList := [] }))),
                                            Value.string x] }
                                    99 (0, 0))] }
                    else False
                  else False
              else
                NoNames (Obj.cells { toList := ss } 99 (0, 0)) ∧
                  (fun v g => F m v g K)
                    [Value.string k, Value.string x, Value.slice (some { block := 0, off := 0 }) j j, Value.bool d,
                      Value.func (Fn.yield 0) { toList := (l.map hv) } { toList := [] }, Value.int IntKind.i64 n,
                      Value.int IntKind.i64 (IntKind.i64.wrap (i + 1))]
                    { next := 1, low := 1, blocks := [(0, Obj.cells { toList := ss } 99 (0, 0))] }
          else False
      else False
    else
      NoNames (Obj.cells { toList := ss } 99 (0, 0)) ∧
        K (AExit.exit 0) [Value.string k, Value.string x, Value.slice (some { block := 0, off := 0 }) j j, Value.bool d]
          { next := 1, low := 1, blocks := [(0, Obj.cells { toList := ss } 99 (0, 0))] })
    (hl : (l.length : Int) = n) (hn : n ≤ 1000) (hk : inU asksU k = true) (hok : ∀ p ∈ l, inU namesU p.1 = true) :
    ∀ (r i : Nat) (d : Bool) (kept : List (ByteArray × ByteArray)) (j : Nat), (i : Int) + r = n → kept.length = j → j + r ≤ 4000 →
      K (.exit 0) [.string k, .string x, .slice (some ⟨0, 0, none⟩) (j + (setR k x (l.drop i) d).1.length) (j + (setR k x (l.drop i) d).1.length), .bool (setR k x (l.drop i) d).2] ⟨1, 1, [(0, .cells ⟨(kept ++ (setR k x (l.drop i) d).1).flatMap hc⟩ 99)]⟩ →
      F (r + 1) [.string k, .string x, .slice (some ⟨0, 0, none⟩) j j, .bool d, fz ⟨l.map hv⟩, .int .i64 n, .int .i64 i] ⟨1, 1, [(0, .cells ⟨kept.flatMap hc⟩ 99)]⟩ K := by
  intro r
  induction r with
  | zero =>
    intro i d kept j h4 h5 h6 h8
    rw [hF]
    rw [List.drop_eq_nil_of_le (by omega)] at h8
    refine pick_f (by simp; omega) ⟨hc_p1 kept, ?_⟩
    simpa [setR, h5] using h8
  | succ r ih =>
    intro i d kept j h4 h5 h6 h8
    rw [hF]
    have hi : i < l.length := by omega
    obtain ⟨p, hp⟩ : ∃ p, l[i]? = some p := ⟨l[i], by simp [hi]⟩
    have hm := hok p (List.mem_of_getElem? hp)
    rw [drop_some hp] at h8
    rw [Int.toNat_natCast]
    simp only [hv_get hp, hv_0, hv_1]
    refine pick_t (by simp; omega) (need_mk (by simp; omega) ⟨rfl, need_mk (by rw [hm, hk]; rfl) ?_⟩)
    simp only [setR] at h8
    cases hb : named p.1 k with
    | false =>
      rw [hb] at h8
      refine pick_t rfl (cut_mk (ble_ss j) (need_mk (big2 j (by omega)) (need_mk (len2 h5) ?_)))
      rw [take2 h5]
      refine ⟨hc_p1 _, ?_⟩
      rw [wrap_id _ (by omega) (by omega)]
      refine ih (i + 1) d _ (j + 1) (by omega) (by simp [h5]) (by omega) ?_
      simpa [List.append_assoc, Nat.add_assoc, Nat.add_comm 1] using h8
    | true =>
      rw [hb] at h8
      refine pick_f rfl ?_
      cases d with
      | false =>
        refine pick_t rfl (cut_mk (ble_ss j) (need_mk (big2 j (by omega)) (need_mk (len2 h5) ?_)))
        rw [take2 h5]
        refine ⟨hc_p1 _, ?_⟩
        rw [wrap_id _ (by omega) (by omega)]
        refine ih (i + 1) true _ (j + 1) (by omega) (by simp [h5]) (by omega) ?_
        simpa [List.append_assoc, Nat.add_assoc, Nat.add_comm 1] using h8
      | true =>
        refine pick_f rfl ⟨hc_p1 kept, ?_⟩
        rw [wrap_id _ (by omega) (by omega)]
        exact ih (i + 1) true kept j (by omega) h5 (by omega) h8
end
theorem soa (k x : ByteArray) (d : Bool) (xs : List Value) (n i : Int) (B : List Value → AH → Prop) (Q : AExit → List Value → AH → Prop) : (once 0 Tryz.prog SV [] noHooks 100 46 [1, 2, 7, 8, 11, 12, 13] [0] [1, 2, 7, 8] [0] (oneLoop (codeOf Tryz.f68) 4) [.string k, .string x, .slice none 0 0, .bool d, fz ⟨xs⟩, .int .i64 n, .int .i64 i] h0 B Q) =
    bif decide (i < n) then
      bif decide (0 ≤ i) && decide (i < ((Array.mk xs).size : Int)) && true then
        (Array.mk xs).toList.getD i.toNat (Value.tuple { toList := [] }) =
            Value.agg
              {
                toList :=
                  [Value.string
                      (toStr
                        (((Array.mk xs).toList.getD i.toNat undef).cells.toList.getD 0 (Value.tuple { toList := [] }))),
                    Value.string
                      (toStr
                        (((Array.mk xs).toList.getD i.toNat undef).cells.toList.getD 1
                          (Value.tuple { toList := [] })))] } ∧
          bif
              inU namesU
                  (toStr
                    (((Array.mk xs).toList.getD i.toNat undef).cells.toList.getD 0 (Value.tuple { toList := [] }))) &&
                inU asksU k then
            bif
                !named
                    (toStr
                      (((Array.mk xs).toList.getD i.toNat undef).cells.toList.getD 0 (Value.tuple { toList := [] })))
                    k then
              NoNames
                  (Obj.cells
                    {
                      toList :=
                        [Value.string
                            (toStr
                              (((Array.mk xs).toList.getD i.toNat undef).cells.toList.getD 0
                                (Value.tuple { toList := [] }))),
                          Value.string
                            (toStr
                              (((Array.mk xs).toList.getD i.toNat undef).cells.toList.getD 1
                                (Value.tuple { toList := [] })))] }
                    99 (0, 0)) ∧
                B
                  [Value.string k, Value.string x, Value.slice (some { block := 0, off := 0 }) 1 1, Value.bool d,
                    Value.func (Fn.yield 0) { toList := xs } { toList := [] }, Value.int IntKind.i64 n,
                    Value.int IntKind.i64 (IntKind.i64.wrap (i + 1))]
                  { next := 1, low := 1,
                    blocks :=
                      [(0,
                          Obj.cells
                            {
                              toList :=
                                [Value.string
                                    (toStr
                                      (((Array.mk xs).toList.getD i.toNat undef).cells.toList.getD 0
                                        (Value.tuple { toList := [] }))),
                                  Value.string
                                    (toStr
                                      (((Array.mk xs).toList.getD i.toNat undef).cells.toList.getD 1
                                        (Value.tuple { toList := [] })))] }
                            99 (0, 0))] }
            else
              bif !d then
                NoNames
                    (Obj.cells
                      {
                        toList :=
                          [Value.string
                              (toStr
                                (((Array.mk xs).toList.getD i.toNat undef).cells.toList.getD 0
                                  (Value.tuple { toList := [] }))),
                            Value.string x] }
                      99 (0, 0)) ∧
                  B
                    [Value.string k, Value.string x, Value.slice (some { block := 0, off := 0 }) 1 1, Value.bool true,
                      Value.func (Fn.yield 0) { toList := xs } { toList := [] }, Value.int IntKind.i64 n,
                      Value.int IntKind.i64 (IntKind.i64.wrap (i + 1))]
                    { next := 1, low := 1,
                      blocks :=
                        [(0,
                            Obj.cells
                              {
                                toList :=
                                  [Value.string
                                      (toStr
                                        (((Array.mk xs).toList.getD i.toNat undef).cells.toList.getD 0
                                          (Value.tuple { toList := [] }))),
                                    Value.string x] }
                              99 (0, 0))] }
              else
                B
                  [Value.string k, Value.string x, Value.slice none 0 0, Value.bool d,
                    Value.func (Fn.yield 0) { toList := xs } { toList := [] }, Value.int IntKind.i64 n,
                    Value.int IntKind.i64 (IntKind.i64.wrap (i + 1))]
                  { next := 0, low := 0, blocks := [] }
          else False
      else False
    else
      Q (AExit.exit 0) [Value.string k, Value.string x, Value.slice none 0 0, Value.bool d]
        { next := 0, low := 0, blocks := [] } := by kernel_rfl

theorem sob (k x : ByteArray) (d : Bool) (xs ss : List Value) (j : Nat) (n i : Int) (B : List Value → AH → Prop) (Q : AExit → List Value → AH → Prop) : (once 0 Tryz.prog SV [] noHooks 100 46 [1, 2, 7, 8, 11, 12, 13] [0] [1, 2, 7, 8] [0] (oneLoop (codeOf Tryz.f68) 4) [.string k, .string x, .slice (some ⟨0, 0, none⟩) j j, .bool d, fz ⟨xs⟩, .int .i64 n, .int .i64 i] ⟨1, 1, [(0, .cells ⟨ss⟩ 99)]⟩ B Q) =
    bif decide (i < n) then
      bif decide (0 ≤ i) && decide (i < ((Array.mk xs).size : Int)) && true then
        (Array.mk xs).toList.getD i.toNat (Value.tuple { toList := [] }) =
            Value.agg
              {
                toList :=
                  [Value.string
                      (toStr
                        (((Array.mk xs).toList.getD i.toNat undef).cells.toList.getD 0 (Value.tuple { toList := [] }))),
                    Value.string
                      (toStr
                        (((Array.mk xs).toList.getD i.toNat undef).cells.toList.getD 1
                          (Value.tuple { toList := [] })))] } ∧
          bif
              inU namesU
                  (toStr
                    (((Array.mk xs).toList.getD i.toNat undef).cells.toList.getD 0 (Value.tuple { toList := [] }))) &&
                inU asksU k then
            bif
                !named
                    (toStr
                      (((Array.mk xs).toList.getD i.toNat undef).cells.toList.getD 0 (Value.tuple { toList := [] })))
                    k then
              bif (j + 1).ble j then False
              else
                bif (j + 1).ble 9223372036854775807 && ((j + 1) * 32).ble 140737488355328 then
                  bif (0 + j * 2).ble (Array.mk ss).size && true && true then
                    NoNames
                        (Obj.cells
                          {
                            toList :=
                              List.take (j * 2) (List.drop 0 (Array.mk ss).toList) ++
                                [Value.string
                                    (toStr
                                      (((Array.mk xs).toList.getD i.toNat undef).cells.toList.getD 0
                                        (Value.tuple { toList := [] }))),
                                  Value.string
                                    (toStr
                                      (((Array.mk xs).toList.getD i.toNat undef).cells.toList.getD 1
                                        (Value.tuple { toList := [] })))] }
                          99 (0, 0)) ∧
                      B
                        [Value.string k, Value.string x, Value.slice (some { block := 0, off := 0 }) (j + 1) (j + 1),
                          Value.bool d, Value.func (Fn.yield 0) { toList := xs } { toList := [] }, Value.int IntKind.i64 n,
                          Value.int IntKind.i64 (IntKind.i64.wrap (i + 1))]
                        { next := 1, low := 1,
                          blocks :=
                            [(0,
                                Obj.cells
                                  {
                                    toList :=
                                      List.take (j * 2) (List.drop 0 (Array.mk ss).toList) ++
                                        [Value.string
                                            (toStr
                                              (((Array.mk xs).toList.getD i.toNat undef).cells.toList.getD 0
                                                (Value.tuple { toList := [] }))),
                                          Value.string
                                            (toStr
                                              (((Array.mk xs).toList.getD i.toNat undef).cells.toList.getD 1
                                                (Value.tuple { toList := [] })))] }
                                  99 (0, 0))] }
                  else False
                else False
            else
              bif !d then
                bif (j + 1).ble j then False
                else
                  bif (j + 1).ble 9223372036854775807 && ((j + 1) * 32).ble 140737488355328 then
                    bif (0 + j * 2).ble (Array.mk ss).size && true && true then
                      NoNames
                          (Obj.cells
                            {
                              toList :=
                                List.take (j * 2) (List.drop 0 (Array.mk ss).toList) ++
                                  [Value.string
                                      (toStr
                                        (((Array.mk xs).toList.getD i.toNat undef).cells.toList.getD 0
                                          (Value.tuple { toList := [] }))),
                                    Value.string x] }
                            99 (0, 0)) ∧
                        B
                          [Value.string k, Value.string x, Value.slice (some { block := 0, off := 0 }) (j + 1) (j + 1),
                            Value.bool true, Value.func (Fn.yield 0) { toList := xs } { toList := [] },
                            Value.int IntKind.i64 n, Value.int IntKind.i64 (IntKind.i64.wrap (i + 1))]
                          { next := 1, low := 1,
                            blocks :=
                              [(0,
                                  Obj.cells
                                    {
                                      toList :=
                                        List.take (j * 2) (List.drop 0 (Array.mk ss).toList) ++
                                          [Value.string
                                              (toStr
                                                (((Array.mk xs).toList.getD i.toNat undef).cells.toList.getD 0
                                                  (Value.tuple { toList := [] }))),
                                            Value.string x] }
                                    99 (0, 0))] }
                    else False
                  else False
              else
                NoNames (Obj.cells { toList := ss } 99 (0, 0)) ∧
                  B
                    [Value.string k, Value.string x, Value.slice (some { block := 0, off := 0 }) j j, Value.bool d,
                      Value.func (Fn.yield 0) { toList := xs } { toList := [] }, Value.int IntKind.i64 n,
                      Value.int IntKind.i64 (IntKind.i64.wrap (i + 1))]
                    { next := 1, low := 1, blocks := [(0, Obj.cells { toList := ss } 99 (0, 0))] }
          else False
      else False
    else
      NoNames (Obj.cells { toList := ss } 99 (0, 0)) ∧
        Q (AExit.exit 0) [Value.string k, Value.string x, Value.slice (some { block := 0, off := 0 }) j j, Value.bool d]
          { next := 1, low := 1, blocks := [(0, Obj.cells { toList := ss } 99 (0, 0))] } := by kernel_rfl

theorem sef (k x : ByteArray) (r d : Bool) (j : Nat) (xs ts : List Value) (C : List Value → AH → Prop) (Q : Value → AH → Prop) : (tfn Tryz.prog SV [] (hook1 4 (hookLS 0 46 [1, 2, 7, 8, 11, 12, 13] [0] [1, 2, 7, 8] (fun vals h K => C vals h ∧ cond r (K (.exit 0) [.string k, .string x, .slice none 0 0, .bool d] h0) (K (.exit 0) [.string k, .string x, .slice (some ⟨0, 0, none⟩) j j, .bool d] ⟨1, 1, [(0, .cells ⟨ts⟩ 99)]⟩)))) 200 [] Tryz.f68 [fz ⟨xs⟩, .string k, .string x] h0 Q) =
    (C
        [Value.string k, Value.string x, Value.slice none 0 0, Value.bool false,
          Value.func (Fn.yield 0) { toList := xs } { toList := [] }, Value.int IntKind.i64 ((Array.mk xs).size : Int),
          Value.int IntKind.i64 0]
        { next := 0, low := 0, blocks := [] } ∧
      bif r then
        bif !d then
          Q (Value.slice (some { block := 1, off := 0 }) 1 1)
            { next := 2, low := 0,
              blocks :=
                [(1, Obj.cells { toList := [Value.string k, Value.string x] } 99 (0, 0)),
                  (0, Obj.cells { toList := [Value.string k, Value.string x] } 99 (0, 0))] }
        else Q (Value.slice none 0 0) { next := 0, low := 0, blocks := [] }
      else
        bif !d then
          bif (j + 1).ble j then False
          else
            bif (j + 1).ble 9223372036854775807 && ((j + 1) * 32).ble 140737488355328 then
              bif (0 + j * 2).ble (Array.mk ts).size && true && true then
                Q (Value.slice (some { block := 2, off := 0 }) (j + 1) (j + 1))
                  { next := 3, low := 0,
                    blocks :=
                      [(2,
                          Obj.cells
                            {
                              toList :=
                                List.take (j * 2) (List.drop 0 (Array.mk ts).toList) ++
                                  [Value.string k, Value.string x] }
                            99 (0, 0)),
                        (1, Obj.cells { toList := [Value.string k, Value.string x] } 99 (0, 0))] }
              else False
            else False
        else
          Q (Value.slice (some { block := 0, off := 0 }) j j)
            { next := 1, low := 1, blocks := [(0, Obj.cells { toList := ts } 99 (0, 0))] }) := by kernel_rfl

end Go.Proofs.YtfjfdemnnhfmoaaGreatDoor
