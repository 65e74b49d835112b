/-
  'set' for headers as they are drawn; 'CheckHeaders', 'Values', 'set' as specifications.
-/
import Derived.Test.YtfjfdemnnhfmoaaGreatDoorHeadC
namespace Go.Proofs.YtfjfdemnnhfmoaaGreatDoor
open Go.Ev Go.RowKit
section
variable {F : Nat → List Value → AH → (AExit → List Value → AH → Prop) → Prop} {K : AExit → List Value → AH → Prop} {l : List (ByteArray × ByteArray)} {n : Int} {k x : ByteArray}
/-- What the loop of 'set' leaves. -/
def outH (k x : ByteArray) (K : AExit → List Value → AH → Prop) (q : List (ByteArray × ByteArray) × Bool) : Prop :=
  cond q.1.isEmpty (K (.exit 0) [.string k, .string x, .slice none 0 0, .bool q.2] h0) (K (.exit 0) [.string k, .string x, .slice (some ⟨0, 0, none⟩) q.1.length q.1.length, .bool q.2] ⟨1, 1, [(0, .cells ⟨q.1.flatMap hc⟩ 99)]⟩)
theorem se_first
    (hF : ∀ (m : Nat) (d : Bool) (i : Int) (ss : List Value) (j : Nat), F (m + 1) [.string k, .string x, .slice (some ⟨0, 0, none⟩) j j, .bool d, fz ⟨l.map hv⟩, .int .i64 n, .int .i64 i] ⟨1, 1, [(0, .cells ⟨ss⟩ 99)]⟩ K =
    bif decide (i < n) then
      bif decide (0 ≤ i) && decide (i < ((Array.mk (l.map hv)).size : Int)) && true then
        (Array.mk (l.map hv)).toList.getD i.toNat (Value.tuple { toList := [] }) =
            Value.agg
              {
                toList :=
                  [Value.string
                      (toStr
                        (((Array.mk (l.map hv)).toList.getD i.toNat undef).cells.toList.getD 0 (Value.tuple { toList := [] }))),
                    Value.string
                      (toStr
                        (((Array.mk (l.map hv)).toList.getD i.toNat undef).cells.toList.getD 1
                          (Value.tuple { toList := [] })))] } ∧
          bif
              inU namesU
                  (toStr
                    (((Array.mk (l.map hv)).toList.getD i.toNat undef).cells.toList.getD 0 (Value.tuple { toList := [] }))) &&
                inU asksU k then
            bif
                !named
                    (toStr
                      (((Array.mk (l.map hv)).toList.getD i.toNat undef).cells.toList.getD 0 (Value.tuple { toList := [] })))
                    k then
              bif (j + 1).ble j then False
              else
                bif (j + 1).ble 9223372036854775807 && ((j + 1) * 32).ble 140737488355328 then
                  bif (0 + j * 2).ble (Array.mk ss).size && true && true then
                    NoNames
                        (Obj.cells
                          {
                            toList :=
                              List.take (j * 2) (List.drop 0 (Array.mk ss).toList) ++
                                [Value.string
                                    (toStr
                                      (((Array.mk (l.map hv)).toList.getD i.toNat undef).cells.toList.getD 0
                                        (Value.tuple { toList := [] }))),
                                  Value.string
                                    (toStr
                                      (((Array.mk (l.map hv)).toList.getD i.toNat undef).cells.toList.getD 1
                                        (Value.tuple { toList := [] })))] }
                          99 (0, 0)) ∧
                      (fun v g => F m v g K)
                        [Value.string k, Value.string x, Value.slice (some { block := 0, off := 0 }) (j + 1) (j + 1),
                          Value.bool d, Value.func (Fn.yield 0) { toList := (l.map hv) } { toList := [] }, Value.int IntKind.i64 n,
                          Value.int IntKind.i64 (IntKind.i64.wrap (i + 1))]
                        { next := 1, low := 1,
                          blocks :=
                            [(0,
                                Obj.cells
                                  {
                                    toList :=
                                      List.take (j * 2) (List.drop 0 (Array.mk ss).toList) ++
                                        [Value.string
                                            (toStr
                                              (((Array.mk (l.map hv)).toList.getD i.toNat undef).cells.toList.getD 0
                                                (Value.tuple { toList := [] }))),
                                          Value.string
                                            (toStr
                                              (((Array.mk (l.map hv)).toList.getD i.toNat undef).cells.toList.getD 1
                                                (Value.tuple { toList := [] })))] }
                                  99 (0, 0))] }
                  else False
                else False
            else
              bif !d then
                bif (j + 1).ble j then False
                else
                  bif (j + 1).ble 9223372036854775807 && ((j + 1) * 32).ble 140737488355328 then
                    bif (0 + j * 2).ble (Array.mk ss).size && true && true then
                      NoNames
                          (Obj.cells
                            {
                              toList :=
                                List.take (j * 2) (List.drop 0 (Array.mk ss).toList) ++
                                  [Value.string
                                      (toStr
                                        (((Array.mk (l.map hv)).toList.getD i.toNat undef).cells.toList.getD 0
                                          (Value.tuple { toList := [] }))),
                                    Value.string x] }
                            99 (0, 0)) ∧
                        (fun v g => F m v g K)
                          [Value.string k, Value.string x, Value.slice (some { block := 0, off := 0 }) (j + 1) (j + 1),
                            Value.bool true, Value.func (Fn.yield 0) { toList := (l.map hv) } { toList := [] },
                            Value.int IntKind.i64 n, Value.int IntKind.i64 (IntKind.i64.wrap (i + 1))]
                          { next := 1, low := 1,
                            blocks :=
                              [(0,
                                  Obj.cells
                                    {
                                      toList :=
                                        List.take (j * 2) (List.drop 0 (Array.mk ss).toList) ++
                                          [Value.string
                                              (toStr
                                                (((Array.mk (l.map hv)).toList.getD i.toNat undef).cells.toList.getD 0
                                                  (Value.tuple { toList := [] }))),
                                            Value.string x] }
                                    99 (0, 0))] }
                    else False
                  else False
              else
                NoNames (Obj.cells { toList := ss } 99 (0, 0)) ∧
                  (fun v g => F m v g K)
                    [Value.string k, Value.string x, Value.slice (some { block := 0, off := 0 }) j j, Value.bool d,
                      Value.func (Fn.yield 0) { toList := (l.map hv) } { toList := [] }, Value.int IntKind.i64 n,
                      Value.int IntKind.i64 (IntKind.i64.wrap (i + 1))]
                    { next := 1, low := 1, blocks := [(0, Obj.cells { toList := ss } 99 (0, 0))] }
          else False
      else False
    else
      NoNames (Obj.cells { toList := ss } 99 (0, 0)) ∧
        K (AExit.exit 0) [Value.string k, Value.string x, Value.slice (some { block := 0, off := 0 }) j j, Value.bool d]
          { next := 1, low := 1, blocks := [(0, Obj.cells { toList := ss } 99 (0, 0))] })
    (hA : ∀ (m : Nat) (d : Bool) (i : Int), F (m + 1) [.string k, .string x, .slice none 0 0, .bool d, fz ⟨l.map hv⟩, .int .i64 n, .int .i64 i] h0 K =
    bif decide (i < n) then
      bif decide (0 ≤ i) && decide (i < ((Array.mk (l.map hv)).size : Int)) && true then
        (Array.mk (l.map hv)).toList.getD i.toNat (Value.tuple { toList := [] }) =
            Value.agg
              {
                toList :=
                  [Value.string
                      (toStr
                        (((Array.mk (l.map hv)).toList.getD i.toNat undef).cells.toList.getD 0 (Value.tuple { toList := [] }))),
                    Value.string
                      (toStr
                        (((Array.mk (l.map hv)).toList.getD i.toNat undef).cells.toList.getD 1
                          (Value.tuple { toList := [] })))] } ∧
          bif
              inU namesU
                  (toStr
                    (((Array.mk (l.map hv)).toList.getD i.toNat undef).cells.toList.getD 0 (Value.tuple { toList := [] }))) &&
                inU asksU k then
            bif
                !named
                    (toStr
                      (((Array.mk (l.map hv)).toList.getD i.toNat undef).cells.toList.getD 0 (Value.tuple { toList := [] })))
                    k then
              NoNames
                  (Obj.cells
                    {
                      toList :=
                        [Value.string
                            (toStr
                              (((Array.mk (l.map hv)).toList.getD i.toNat undef).cells.toList.getD 0
                                (Value.tuple { toList := [] }))),
                          Value.string
                            (toStr
                              (((Array.mk (l.map hv)).toList.getD i.toNat undef).cells.toList.getD 1
                                (Value.tuple { toList := [] })))] }
                    99 (0, 0)) ∧
                (fun v g => F m v g K)
                  [Value.string k, Value.string x, Value.slice (some { block := 0, off := 0 }) 1 1, Value.bool d,
                    Value.func (Fn.yield 0) { toList := (l.map hv) } { toList := [] }, Value.int IntKind.i64 n,
                    Value.int IntKind.i64 (IntKind.i64.wrap (i + 1))]
                  { next := 1, low := 1,
                    blocks :=
                      [(0,
                          Obj.cells
                            {
                              toList :=
                                [Value.string
                                    (toStr
                                      (((Array.mk (l.map hv)).toList.getD i.toNat undef).cells.toList.getD 0
                                        (Value.tuple { toList := [] }))),
                                  Value.string
                                    (toStr
                                      (((Array.mk (l.map hv)).toList.getD i.toNat undef).cells.toList.getD 1
                                        (Value.tuple { toList := [] })))] }
                            99 (0, 0))] }
            else
              bif !d then
                NoNames
                    (Obj.cells
                      {
                        toList :=
                          [Value.string
                              (toStr
                                (((Array.mk (l.map hv)).toList.getD i.toNat undef).cells.toList.getD 0
                                  (Value.tuple { toList := [] }))),
                            Value.string x] }
                      99 (0, 0)) ∧
                  (fun v g => F m v g K)
                    [Value.string k, Value.string x, Value.slice (some { block := 0, off := 0 }) 1 1, Value.bool true,
                      Value.func (Fn.yield 0) { toList := (l.map hv) } { toList := [] }, Value.int IntKind.i64 n,
                      Value.int IntKind.i64 (IntKind.i64.wrap (i + 1))]
                    { next := 1, low := 1,
                      blocks :=
                        [(0,
                            Obj.cells
                              {
                                toList :=
                                  [Value.string
                                      (toStr
                                        (((Array.mk (l.map hv)).toList.getD i.toNat undef).cells.toList.getD 0
                                          (Value.tuple { toList := [] }))),
                                    Value.string x] }
                              99 (0, 0))] }
              else
                (fun v g => F m v g K)
                  [Value.string k, Value.string x, Value.slice none 0 0, Value.bool d,
                    Value.func (Fn.yield 0) { toList := (l.map hv) } { toList := [] }, Value.int IntKind.i64 n,
                    Value.int IntKind.i64 (IntKind.i64.wrap (i + 1))]
                  { next := 0, low := 0, blocks := [] }
          else False
      else False
    else
      K (AExit.exit 0) [Value.string k, Value.string x, Value.slice none 0 0, Value.bool d]
        { next := 0, low := 0, blocks := [] })
    (hl : (l.length : Int) = n) (hn : n ≤ 1000) (hk : inU asksU k = true) (hok : ∀ p ∈ l, inU namesU p.1 = true) :
    ∀ (r i : Nat) (d : Bool), (i : Int) + r = n → outH k x K (setR k x (l.drop i) d) → F (r + 1) [.string k, .string x, .slice none 0 0, .bool d, fz ⟨l.map hv⟩, .int .i64 n, .int .i64 i] h0 K := by
  intro r
  induction r with
  | zero =>
    intro i d h4 h8
    rw [hA]
    rw [List.drop_eq_nil_of_le (by omega)] at h8
    exact pick_f (by simp; omega) h8
  | succ r ih =>
    intro i d h4 h8
    rw [hA]
    have hi : i < l.length := by omega
    obtain ⟨p, hp⟩ : ∃ p, l[i]? = some p := ⟨l[i], by simp [hi]⟩
    have hm := hok p (List.mem_of_getElem? hp)
    rw [drop_some hp] at h8
    rw [Int.toNat_natCast]
    simp only [hv_get hp, hv_0, hv_1]
    refine pick_t (by simp; omega) (need_mk (by simp; omega) ⟨rfl, need_mk (by rw [hm, hk]; rfl) ?_⟩)
    simp only [setR] at h8
    cases hb : named p.1 k with
    | false =>
      rw [hb] at h8
      refine pick_t rfl ⟨hc_p1 [p], ?_⟩
      rw [wrap_id _ (by omega) (by omega)]
      refine se_later hF hl hn hk hok r (i + 1) d [p] 1 (by omega) rfl (by omega) ?_
      rw [Nat.add_comm]
      exact h8
    | true =>
      rw [hb] at h8
      refine pick_f rfl ?_
      cases d with
      | false =>
        refine pick_t rfl ⟨hc_p1 [(p.1, x)], ?_⟩
        rw [wrap_id _ (by omega) (by omega)]
        refine se_later hF hl hn hk hok r (i + 1) true [(p.1, x)] 1 (by omega) rfl (by omega) ?_
        rw [Nat.add_comm]
        exact h8
      | true =>
        refine pick_f rfl ?_
        rw [wrap_id _ (by omega) (by omega)]
        exact ih (i + 1) true (by omega) h8
end

theorem se_fn (l : List (ByteArray × ByteArray)) (k x : ByteArray) (h : l.length ≤ 50) (hk : inU asksU k = true) (hok : ∀ p ∈ l, inU namesU p.1 = true) :
    FnOK 0 Tryz.prog 68 ⟨[fz ⟨l.map hv⟩, .string k, .string x]⟩ h0 (fun v _ => v = fz ⟨(setL k x l).map hv⟩) := by
  have hlen := setR_len k x l false
  have hC : LSpec 0 Tryz.prog 46 (oneLoop (codeOf Tryz.f68) 4) (hookLS 0 46 [1, 2, 7, 8, 11, 12, 13] [0] [1, 2, 7, 8] (fun vals h K => (vals = [.string k, .string x, .slice none 0 0, .bool false, fz ⟨l.map hv⟩, .int .i64 (l.length : Int), .int .i64 0] ∧ h = h0) ∧
      cond (setR k x l false).1.isEmpty (K (.exit 0) [.string k, .string x, .slice none 0 0, .bool (setR k x l false).2] h0) (K (.exit 0) [.string k, .string x, .slice (some ⟨0, 0, none⟩) (setR k x l false).1.length (setR k x l false).1.length, .bool (setR k x l false).2] ⟨1, 1, [(0, .cells ⟨(setR k x l false).1.flatMap hc⟩ 99)]⟩))) := by
    refine hook_ok (G := []) (L := noHooks) (f := 100) (sameX := [0]) SV_ok mixed (by decide) (loops_none _ _ _ _) ?_
    rintro vals h K ⟨⟨rfl, rfl⟩, hK⟩
    exact ⟨l.length + 1, se_first (F := iter 0 Tryz.prog SV [] noHooks 100 46 [1, 2, 7, 8, 11, 12, 13] [0] [1, 2, 7, 8] [0] (oneLoop (codeOf Tryz.f68) 4)) (K := K) (fun m d i ss j => sob k x d (l.map hv) ss j _ i _ K) (fun m d i => soa k x d (l.map hv) _ i _ K) rfl (by omega) hk hok l.length 0 false (by simp) hK⟩
  refine FnOK.weak1 (FnOK.ttree SV_ok mixed Tryz.func68 some68 (loops_one one68 hC) (sef k x (setR k x l false).1.isEmpty (setR k x l false).2 (setR k x l false).1.length (l.map hv) ((setR k x l false).1.flatMap hc) (fun vals h => vals = [.string k, .string x, .slice none 0 0, .bool false, fz ⟨l.map hv⟩, .int .i64 (l.length : Int), .int .i64 0] ∧ h = h0) _) ?_)
  refine ⟨⟨?_, rfl⟩, ?_⟩
  · show [.string k, .string x, .slice none 0 0, .bool false, fz ⟨l.map hv⟩, .int .i64 (((l.map hv).length : Nat) : Int), .int .i64 0] = _
    rw [List.length_map]
  · unfold setL
    generalize setR k x l false = q at hlen
    obtain ⟨a, d⟩ := q
    simp only at hlen ⊢
    cases he : a.isEmpty with
    | true =>
      have : a = [] := by simpa using he
      subst this
      cases d with
      | true => exact ⟨_, _, nil1, rfl⟩
      | false => exact ⟨_, _, freezeH (l := [(k, x)]) rfl rfl, rfl⟩
    | false =>
      cases d with
      | true => exact ⟨_, _, freezeH (l := a) rfl rfl, rfl⟩
      | false =>
        refine pick_f rfl (pick_t rfl (cut_mk (ble_ss a.length) (need_mk (big2 a.length (by omega)) (need_mk (len2 (kept := a) rfl) ?_))))
        rw [take2 (kept := a) rfl]
        exact ⟨_, _, freezeH (l := a ++ [(k, x)]) (by simp) rfl, rfl⟩

def shpH : Value → Bool
  | .agg ⟨[.string _, .string _]⟩ => true
  | _ => false
/-- Headers, out of values. -/
def hlist (xs : List Value) : List (ByteArray × ByteArray) := xs.map fun v => (toStr (v.cells.toList.getD 0 undef), toStr (v.cells.toList.getD 1 undef))
theorem shpH_eq {v : Value} (h : shpH v = true) : hv (toStr (v.cells.toList.getD 0 undef), toStr (v.cells.toList.getD 1 undef)) = v := by
  unfold shpH at h
  split at h
  · rfl
  · cases h
theorem shpH_all : ∀ {xs : List Value}, xs.all shpH = true → (hlist xs).map hv = xs
  | [], _ => rfl
  | v :: l, h => by
    simp only [List.all_cons, Bool.and_eq_true] at h
    have ih := shpH_all h.2
    simp only [hlist, List.map_cons] at ih ⊢
    rw [ih, shpH_eq h.1]
def okN (p : ByteArray × ByteArray) : Bool := inU namesU p.1
def okH (p : ByteArray × ByteArray) : Bool := inU namesU p.1 && okVal p.2
def spChk (f : FuncId) (args : Array Value) (h : AH) : Option (Bool × Value × AH) :=
  cond (Nat.beq f 102) (match args with
    | ⟨[y]⟩ => match asFz y with
      | some xs => some (xs.all shpH && (hlist xs).all okH && Nat.ble xs.length 50, .int .i64 0, h)
      | none => none
    | _ => none) none
theorem spChk_ok : SpOK spChk := by
  intro f args h v h' hs
  unfold spChk at hs
  obtain ⟨hf, hs2⟩ := cond_some hs
  clear hs
  have hs := hs2
  clear hs2
  have := Nat.eq_of_beq_eq_true hf
  subst this
  split at hs
  · rename_i y
    split at hs
    · rename_i xs hy
      injection hs with hs
      injection hs with hb hs
      injection hs with hv hh
      subst hv hh
      simp only [Bool.and_eq_true, Nat.ble_eq] at hb
      have hF := ch_fn (hlist xs) (by simpa [hlist] using hb.2) (fun p hp => by simpa [okH] using List.all_eq_true.1 hb.1.2 p hp)
      rw [shpH_all hb.1.1] at hF
      exact ⟨asFz_call hy (FnOK.pure hF rfl rfl h), Nat.le_refl _⟩
    · cases hs
  · cases hs
def spVal (f : FuncId) (args : Array Value) (h : AH) : Option (Bool × Value × AH) :=
  cond (Nat.beq f 61) (match args with
    | ⟨[y, .string k]⟩ => match asFz y with
      | some xs => some (xs.all shpH && (hlist xs).all okN && Nat.ble xs.length 50 && inU asksU k, fz ⟨(valuesL k (hlist xs)).map Value.string⟩, h)
      | none => none
    | _ => none) none
theorem spVal_ok : SpOK spVal := by
  intro f args h v h' hs
  unfold spVal at hs
  obtain ⟨hf, hs2⟩ := cond_some hs
  clear hs
  have hs := hs2
  clear hs2
  have := Nat.eq_of_beq_eq_true hf
  subst this
  split at hs
  · rename_i y k
    split at hs
    · rename_i xs hy
      injection hs with hs
      injection hs with hb hs
      injection hs with hv hh
      subst hv hh
      simp only [Bool.and_eq_true, Nat.ble_eq] at hb
      have hF := va_fn (hlist xs) k (by simpa [hlist] using hb.1.2) hb.2 (fun p hp => by simpa [okN] using List.all_eq_true.1 hb.1.1.2 p hp)
      rw [shpH_all hb.1.1.1] at hF
      exact ⟨asFz_call hy (FnOK.pure hF rfl rfl h), Nat.le_refl _⟩
    · cases hs
  · cases hs
def spSet (f : FuncId) (args : Array Value) (h : AH) : Option (Bool × Value × AH) :=
  cond (Nat.beq f 68) (match args with
    | ⟨[y, .string k, .string x]⟩ => match asFz y with
      | some xs => some (xs.all shpH && (hlist xs).all okN && Nat.ble xs.length 50 && inU asksU k, fz ⟨(setL k x (hlist xs)).map hv⟩, h)
      | none => none
    | _ => none) none
theorem spSet_ok : SpOK spSet := by
  intro f args h v h' hs
  unfold spSet at hs
  obtain ⟨hf, hs2⟩ := cond_some hs
  clear hs
  have hs := hs2
  clear hs2
  have := Nat.eq_of_beq_eq_true hf
  subst this
  split at hs
  · rename_i y k x
    split at hs
    · rename_i xs hy
      injection hs with hs
      injection hs with hb hs
      injection hs with hv hh
      subst hv hh
      simp only [Bool.and_eq_true, Nat.ble_eq] at hb
      have hF := se_fn (hlist xs) k x (by simpa [hlist] using hb.1.2) hb.2 (fun p hp => by simpa [okN] using List.all_eq_true.1 hb.1.1.2 p hp)
      rw [shpH_all hb.1.1.1] at hF
      exact ⟨asFz_call hy (FnOK.pure hF rfl rfl h), Nat.le_refl _⟩
    · cases hs
  · cases hs
end Go.Proofs.YtfjfdemnnhfmoaaGreatDoor
