/-
  'without' for headers as they are drawn, one to six of them, as a specification.
-/
import Derived.Test.YtfjfdemnnhfmoaaGreatDoorHeadD
namespace Go.Proofs.YtfjfdemnnhfmoaaGreatDoor
open Go.Ev Go.RowKit

def SD : SC := ⟨idn, spNmd, false, false⟩
theorem SD_ok : SD.cfg.OK Tryz.prog := spNmd_ok.cfg
theorem some66 : Tryz.f66.body.isSome = true := by kernel_rfl
def removeL (k : ByteArray) (l : List (ByteArray × ByteArray)) : List (ByteArray × ByteArray) := l.filter fun p => !named p.1 k
theorem freezeR {p : Nat} {P : Program} {h : AH} {b : Nat} {t : TypeId} {fr : Nat × Nat} {cap : Nat} (l : List (ByteArray × ByteArray)) (rest : List Value) (hr : ∀ v ∈ rest, p1 v = true) (hcap : l.length ≤ cap) (hb : h.get b = some (.cells ⟨l.flatMap hc ++ rest⟩ t fr)) :
    Weak p P #[.slice (some ⟨b, 0, none⟩) l.length cap] h #[fz ⟨l.map hv⟩] (h.del b) := by
  refine Weak.freeze (n := l.length) (cap := cap) b 2 ⟨l.map hv⟩ hb ?_ (by simp) hcap ?_ ?_ ?_ rfl ?_
  · intro v hv
    rcases List.mem_append.1 (show v ∈ l.flatMap hc ++ rest by simpa using hv) with q | q
    · exact hc_p1 l v q
    · exact hr v q
  · have := hc_len l
    show l.length * 2 ≤ (l.flatMap hc ++ rest).length
    rw [List.length_append]
    omega
  · intro i x hx
    have hx : (l.map hv)[i]? = some x := by simpa using hx
    rw [List.getElem?_map] at hx
    obtain ⟨q, _, rfl⟩ := Option.map_eq_some_iff.1 hx
    rfl
  · intro i j x v hx hv
    have h1 := hc_get l i j x v (by simpa using hx) hv
    have h2 := (List.getElem?_eq_some_iff.1 h1).1
    have e : (Array.mk (l.flatMap hc ++ rest))[i * 2 + j]? = (l.flatMap hc ++ rest)[i * 2 + j]? := by simp
    rw [e, List.getElem?_append_left h2]
    exact h1
  · intro i
    cases i with
    | zero => exact .inr ⟨rfl, rfl⟩
    | succ i => exact .inl (by simp)

/-- What 'without' ends in. -/
def woPost (k : ByteArray) (l : List (ByteArray × ByteArray)) (v : Value) (q : Option Obj) : Prop :=
  ∃ b cap rest, v = .slice (some ⟨b, 0, none⟩) (removeL k l).length cap ∧ q = some (.cells ⟨(removeL k l).flatMap hc ++ rest⟩ 99 (0, 0)) ∧ (∀ x ∈ rest, p1 x = true) ∧ (removeL k l).length ≤ cap
theorem leaf_mk {k : ByteArray} {l m : List (ByteArray × ByteArray)} {v : Value} {q : Option Obj} (h : removeL k l = m) (hw : ∃ b cap rest, v = .slice (some ⟨b, 0, none⟩) m.length cap ∧ q = some (.cells ⟨m.flatMap hc ++ rest⟩ 99 (0, 0)) ∧ (∀ x ∈ rest, p1 x = true) ∧ m.length ≤ cap) : woPost k l v q := by
  unfold woPost; rw [h]; exact hw
theorem and_mk {a b : Bool} (ha : a = true) (hb : b = true) : (a && b) = true := by rw [ha, hb]; rfl
theorem woPost.weak {k : ByteArray} {l : List (ByteArray × ByteArray)} {v : Value} {h : AH} (hw : woPost k l v (h.get (blkOf v))) : ∃ v2 g2, Weak 0 Tryz.prog #[v] h #[v2] g2 ∧ v2 = fz ⟨(removeL k l).map hv⟩ := by
  obtain ⟨b, cap, rest, rfl, h2, h3, h4⟩ := hw
  exact ⟨_, _, freezeR (removeL k l) rest h3 h4 h2, rfl⟩

theorem wo1 (k a1 b1 : ByteArray) (Q : Value → Option Obj → Prop) : (ffn Tryz.prog SD [] 3000 [] Tryz.f66 [fz ⟨[.agg ⟨[.string a1, .string b1]⟩]⟩, .string k] h0 (fun v h => Q v (h.get (blkOf v)))) =
    bif inU namesU a1 && inU asksU k then
      bif named a1 k then
        Q (Value.slice (some { block := 2, off := 0 }) 0 1)
          (some
            (Obj.cells
              {
                toList :=
                  [Value.string { data := #[] },
                    Value.string { data := #[] }] }
              99 (0, 0)))
      else
        Q (Value.slice (some { block := 2, off := 0 }) 1 1)
          (some (Obj.cells { toList := [Value.string a1, Value.string b1] } 99 (0, 0)))
    else False := by kernel_rfl
theorem wo2 (k a1 b1 a2 b2 : ByteArray) (Q : Value → Option Obj → Prop) : (ffn Tryz.prog SD [] 3000 [] Tryz.f66 [fz ⟨[.agg ⟨[.string a1, .string b1]⟩, .agg ⟨[.string a2, .string b2]⟩]⟩, .string k] h0 (fun v h => Q v (h.get (blkOf v)))) =
    bif inU namesU a1 && inU asksU k then
      bif named a1 k then
        bif inU namesU a2 && inU asksU k then
          bif !named a2 k then
            Q (Value.slice (some { block := 2, off := 0 }) 1 2)
              (some
                (Obj.cells
                  {
                    toList :=
                      [Value.string a2, Value.string b2,
                        Value.string { data := #[] },
                        Value.string { data := #[] }] }
                  99 (0, 0)))
          else
            Q (Value.slice (some { block := 2, off := 0 }) 0 2)
              (some
                (Obj.cells
                  {
                    toList :=
                      [Value.string { data := #[] },
                        Value.string { data := #[] },
                        Value.string { data := #[] },
                        Value.string { data := #[] }] }
                  99 (0, 0)))
        else False
      else
        bif inU namesU a2 && inU asksU k then
          bif named a2 k then
            Q (Value.slice (some { block := 2, off := 0 }) 1 2)
              (some
                (Obj.cells
                  {
                    toList :=
                      [Value.string a1, Value.string b1,
                        Value.string { data := #[] },
                        Value.string { data := #[] }] }
                  99 (0, 0)))
          else
            Q (Value.slice (some { block := 2, off := 0 }) 2 2)
              (some
                (Obj.cells { toList := [Value.string a1, Value.string b1, Value.string a2, Value.string b2] } 99 (0, 0)))
        else False
    else False := by kernel_rfl
theorem wo3 (k a1 b1 a2 b2 a3 b3 : ByteArray) (Q : Value → Option Obj → Prop) : (ffn Tryz.prog SD [] 3000 [] Tryz.f66 [fz ⟨[.agg ⟨[.string a1, .string b1]⟩, .agg ⟨[.string a2, .string b2]⟩, .agg ⟨[.string a3, .string b3]⟩]⟩, .string k] h0 (fun v h => Q v (h.get (blkOf v)))) =
    bif inU namesU a1 && inU asksU k then
      bif named a1 k then
        bif inU namesU a2 && inU asksU k then
          bif !named a2 k then
            bif inU namesU a3 && inU asksU k then
              bif !named a3 k then
                Q (Value.slice (some { block := 2, off := 0 }) 2 3)
                  (some
                    (Obj.cells
                      {
                        toList :=
                          [Value.string a2, Value.string b2, Value.string a3, Value.string b3,
                            Value.string { data := #[] },
                            Value.string { data := #[] }] }
                      99 (0, 0)))
              else
                Q (Value.slice (some { block := 2, off := 0 }) 1 3)
                  (some
                    (Obj.cells
                      {
                        toList :=
                          [Value.string a2, Value.string b2,
                            Value.string { data := #[] },
                            Value.string { data := #[] },
                            Value.string { data := #[] },
                            Value.string { data := #[] }] }
                      99 (0, 0)))
            else False
          else
            bif inU namesU a3 && inU asksU k then
              bif !named a3 k then
                Q (Value.slice (some { block := 2, off := 0 }) 1 3)
                  (some
                    (Obj.cells
                      {
                        toList :=
                          [Value.string a3, Value.string b3,
                            Value.string { data := #[] },
                            Value.string { data := #[] },
                            Value.string { data := #[] },
                            Value.string { data := #[] }] }
                      99 (0, 0)))
              else
                Q (Value.slice (some { block := 2, off := 0 }) 0 3)
                  (some
                    (Obj.cells
                      {
                        toList :=
                          [Value.string { data := #[] },
                            Value.string { data := #[] },
                            Value.string { data := #[] },
                            Value.string { data := #[] },
                            Value.string { data := #[] },
                            Value.string { data := #[] }] }
                      99 (0, 0)))
            else False
        else False
      else
        bif inU namesU a2 && inU asksU k then
          bif named a2 k then
            bif inU namesU a3 && inU asksU k then
              bif !named a3 k then
                Q (Value.slice (some { block := 2, off := 0 }) 2 3)
                  (some
                    (Obj.cells
                      {
                        toList :=
                          [Value.string a1, Value.string b1, Value.string a3, Value.string b3,
                            Value.string { data := #[] },
                            Value.string { data := #[] }] }
                      99 (0, 0)))
              else
                Q (Value.slice (some { block := 2, off := 0 }) 1 3)
                  (some
                    (Obj.cells
                      {
                        toList :=
                          [Value.string a1, Value.string b1,
                            Value.string { data := #[] },
                            Value.string { data := #[] },
                            Value.string { data := #[] },
                            Value.string { data := #[] }] }
                      99 (0, 0)))
            else False
          else
            bif inU namesU a3 && inU asksU k then
              bif named a3 k then
                Q (Value.slice (some { block := 2, off := 0 }) 2 3)
                  (some
                    (Obj.cells
                      {
                        toList :=
                          [Value.string a1, Value.string b1, Value.string a2, Value.string b2,
                            Value.string { data := #[] },
                            Value.string { data := #[] }] }
                      99 (0, 0)))
              else
                Q (Value.slice (some { block := 2, off := 0 }) 3 3)
                  (some
                    (Obj.cells
                      {
                        toList :=
                          [Value.string a1, Value.string b1, Value.string a2, Value.string b2, Value.string a3,
                            Value.string b3] }
                      99 (0, 0)))
            else False
        else False
    else False := by kernel_rfl
theorem wo4 (k a1 b1 a2 b2 a3 b3 a4 b4 : ByteArray) (Q : Value → Option Obj → Prop) : (ffn Tryz.prog SD [] 3000 [] Tryz.f66 [fz ⟨[.agg ⟨[.string a1, .string b1]⟩, .agg ⟨[.string a2, .string b2]⟩, .agg ⟨[.string a3, .string b3]⟩, .agg ⟨[.string a4, .string b4]⟩]⟩, .string k] h0 (fun v h => Q v (h.get (blkOf v)))) =
    bif inU namesU a1 && inU asksU k then
      bif named a1 k then
        bif inU namesU a2 && inU asksU k then
          bif !named a2 k then
            bif inU namesU a3 && inU asksU k then
              bif !named a3 k then
                bif inU namesU a4 && inU asksU k then
                  bif !named a4 k then
                    Q (Value.slice (some { block := 2, off := 0 }) 3 4)
                      (some
                        (Obj.cells
                          {
                            toList :=
                              [Value.string a2, Value.string b2, Value.string a3, Value.string b3, Value.string a4,
                                Value.string b4,
                                Value.string { data := #[] },
                                Value.string { data := #[] }] }
                          99 (0, 0)))
                  else
                    Q (Value.slice (some { block := 2, off := 0 }) 2 4)
                      (some
                        (Obj.cells
                          {
                            toList :=
                              [Value.string a2, Value.string b2, Value.string a3, Value.string b3,
                                Value.string { data := #[] },
                                Value.string { data := #[] },
                                Value.string { data := #[] },
                                Value.string { data := #[] }] }
                          99 (0, 0)))
                else False
              else
                bif inU namesU a4 && inU asksU k then
                  bif !named a4 k then
                    Q (Value.slice (some { block := 2, off := 0 }) 2 4)
                      (some
                        (Obj.cells
                          {
                            toList :=
                              [Value.string a2, Value.string b2, Value.string a4, Value.string b4,
                                Value.string { data := #[] },
                                Value.string { data := #[] },
                                Value.string { data := #[] },
                                Value.string { data := #[] }] }
                          99 (0, 0)))
                  else
                    Q (Value.slice (some { block := 2, off := 0 }) 1 4)
                      (some
                        (Obj.cells
                          {
                            toList :=
                              [Value.string a2, Value.string b2,
                                Value.string { data := #[] },
                                Value.string { data := #[] },
                                Value.string { data := #[] },
                                Value.string { data := #[] },
                                Value.string { data := #[] },
                                Value.string { data := #[] }] }
                          99 (0, 0)))
                else False
            else False
          else
            bif inU namesU a3 && inU asksU k then
              bif !named a3 k then
                bif inU namesU a4 && inU asksU k then
                  bif !named a4 k then
                    Q (Value.slice (some { block := 2, off := 0 }) 2 4)
                      (some
                        (Obj.cells
                          {
                            toList :=
                              [Value.string a3, Value.string b3, Value.string a4, Value.string b4,
                                Value.string { data := #[] },
                                Value.string { data := #[] },
                                Value.string { data := #[] },
                                Value.string { data := #[] }] }
                          99 (0, 0)))
                  else
                    Q (Value.slice (some { block := 2, off := 0 }) 1 4)
                      (some
                        (Obj.cells
                          {
                            toList :=
                              [Value.string a3, Value.string b3,
                                Value.string { data := #[] },
                                Value.string { data := #[] },
                                Value.string { data := #[] },
                                Value.string { data := #[] },
                                Value.string { data := #[] },
                                Value.string { data := #[] }] }
                          99 (0, 0)))
                else False
              else
                bif inU namesU a4 && inU asksU k then
                  bif !named a4 k then
                    Q (Value.slice (some { block := 2, off := 0 }) 1 4)
                      (some
                        (Obj.cells
                          {
                            toList :=
                              [Value.string a4, Value.string b4,
                                Value.string { data := #[] },
                                Value.string { data := #[] },
                                Value.string { data := #[] },
                                Value.string { data := #[] },
                                Value.string { data := #[] },
                                Value.string { data := #[] }] }
                          99 (0, 0)))
                  else
                    Q (Value.slice (some { block := 2, off := 0 }) 0 4)
                      (some
                        (Obj.cells
                          {
                            toList :=
                              [Value.string { data := #[] },
                                Value.string { data := #[] },
                                Value.string { data := #[] },
                                Value.string { data := #[] },
                                Value.string { data := #[] },
                                Value.string { data := #[] },
                                Value.string { data := #[] },
                                Value.string { data := #[] }] }
                          99 (0, 0)))
                else False
            else False
        else False
      else
        bif inU namesU a2 && inU asksU k then
          bif named a2 k then
            bif inU namesU a3 && inU asksU k then
              bif !named a3 k then
                bif inU namesU a4 && inU asksU k then
                  bif !named a4 k then
                    Q (Value.slice (some { block := 2, off := 0 }) 3 4)
                      (some
                        (Obj.cells
                          {
                            toList :=
                              [Value.string a1, Value.string b1, Value.string a3, Value.string b3, Value.string a4,
                                Value.string b4,
                                Value.string { data := #[] },
                                Value.string { data := #[] }] }
                          99 (0, 0)))
                  else
                    Q (Value.slice (some { block := 2, off := 0 }) 2 4)
                      (some
                        (Obj.cells
                          {
                            toList :=
                              [Value.string a1, Value.string b1, Value.string a3, Value.string b3,
                                Value.string { data := #[] },
                                Value.string { data := #[] },
                                Value.string { data := #[] },
                                Value.string { data := #[] }] }
                          99 (0, 0)))
                else False
              else
                bif inU namesU a4 && inU asksU k then
                  bif !named a4 k then
                    Q (Value.slice (some { block := 2, off := 0 }) 2 4)
                      (some
                        (Obj.cells
                          {
                            toList :=
                              [Value.string a1, Value.string b1, Value.string a4, Value.string b4,
                                Value.string { data := #[] },
                                Value.string { data := #[] },
                                Value.string { data := #[] },
                                Value.string { data := #[] }] }
                          99 (0, 0)))
                  else
                    Q (Value.slice (some { block := 2, off := 0 }) 1 4)
                      (some
                        (Obj.cells
                          {
                            toList :=
                              [Value.string a1, Value.string b1,
                                Value.string { data := #[] },
                                Value.string { data := #[] },
                                Value.string { data := #[] },
                                Value.string { data := #[] },
                                Value.string { data := #[] },
                                Value.string { data := #[] }] }
                          99 (0, 0)))
                else False
            else False
          else
            bif inU namesU a3 && inU asksU k then
              bif named a3 k then
                bif inU namesU a4 && inU asksU k then
                  bif !named a4 k then
                    Q (Value.slice (some { block := 2, off := 0 }) 3 4)
                      (some
                        (Obj.cells
                          {
                            toList :=
                              [Value.string a1, Value.string b1, Value.string a2, Value.string b2, Value.string a4,
                                Value.string b4,
                                Value.string { data := #[] },
                                Value.string { data := #[] }] }
                          99 (0, 0)))
                  else
                    Q (Value.slice (some { block := 2, off := 0 }) 2 4)
                      (some
                        (Obj.cells
                          {
                            toList :=
                              [Value.string a1, Value.string b1, Value.string a2, Value.string b2,
                                Value.string { data := #[] },
                                Value.string { data := #[] },
                                Value.string { data := #[] },
                                Value.string { data := #[] }] }
                          99 (0, 0)))
                else False
              else
                bif inU namesU a4 && inU asksU k then
                  bif named a4 k then
                    Q (Value.slice (some { block := 2, off := 0 }) 3 4)
                      (some
                        (Obj.cells
                          {
                            toList :=
                              [Value.string a1, Value.string b1, Value.string a2, Value.string b2, Value.string a3,
                                Value.string b3,
                                Value.string { data := #[] },
                                Value.string { data := #[] }] }
                          99 (0, 0)))
                  else
                    Q (Value.slice (some { block := 2, off := 0 }) 4 4)
                      (some
                        (Obj.cells
                          {
                            toList :=
                              [Value.string a1, Value.string b1, Value.string a2, Value.string b2, Value.string a3,
                                Value.string b3, Value.string a4, Value.string b4] }
                          99 (0, 0)))
                else False
            else False
        else False
    else False := by kernel_rfl
theorem without1 (k a1 b1 : ByteArray) (hk : inU asksU k = true) (n1 : inU namesU a1 = true) : FnOK 0 Tryz.prog 66 ⟨[fz ⟨List.map hv [(a1, b1)]⟩, .string k]⟩ h0 (fun v _ => v = fz ⟨(removeL k [(a1, b1)]).map hv⟩) := by
  refine FnOK.weak1 ((FnOK.ftree SD_ok mixed Tryz.func66 some66 (wo1 k a1 b1 (woPost k [(a1, b1)])) ?_).mono fun v g hw => woPost.weak hw)
  exact need_mk (and_mk n1 hk) (cond_mk (fun c1 => (leaf_mk (show removeL k [(a1, b1)] = [] from by simp [removeL, List.filter, c1]) ⟨_, _, [.string ⟨#[]⟩, .string ⟨#[]⟩], rfl, rfl, by simp [p1], by simp⟩)) (fun c1 => (leaf_mk (show removeL k [(a1, b1)] = [(a1, b1)] from by simp [removeL, List.filter, c1]) ⟨_, _, [], rfl, rfl, by simp [p1], by simp⟩)))
theorem without2 (k a1 b1 a2 b2 : ByteArray) (hk : inU asksU k = true) (n1 : inU namesU a1 = true) (n2 : inU namesU a2 = true) : FnOK 0 Tryz.prog 66 ⟨[fz ⟨List.map hv [(a1, b1), (a2, b2)]⟩, .string k]⟩ h0 (fun v _ => v = fz ⟨(removeL k [(a1, b1), (a2, b2)]).map hv⟩) := by
  refine FnOK.weak1 ((FnOK.ftree SD_ok mixed Tryz.func66 some66 (wo2 k a1 b1 a2 b2 (woPost k [(a1, b1), (a2, b2)])) ?_).mono fun v g hw => woPost.weak hw)
  exact need_mk (and_mk n1 hk) (cond_mk (fun c1 => need_mk (and_mk n2 hk) (cond_mk (fun c2 => (leaf_mk (show removeL k [(a1, b1), (a2, b2)] = [(a2, b2)] from by simp [removeL, List.filter, c1, c2]) ⟨_, _, [.string ⟨#[]⟩, .string ⟨#[]⟩], rfl, rfl, by simp [p1], by simp⟩)) (fun c2 => (leaf_mk (show removeL k [(a1, b1), (a2, b2)] = [] from by simp [removeL, List.filter, c1, c2]) ⟨_, _, [.string ⟨#[]⟩, .string ⟨#[]⟩, .string ⟨#[]⟩, .string ⟨#[]⟩], rfl, rfl, by simp [p1], by simp⟩)))) (fun c1 => need_mk (and_mk n2 hk) (cond_mk (fun c2 => (leaf_mk (show removeL k [(a1, b1), (a2, b2)] = [(a1, b1)] from by simp [removeL, List.filter, c1, c2]) ⟨_, _, [.string ⟨#[]⟩, .string ⟨#[]⟩], rfl, rfl, by simp [p1], by simp⟩)) (fun c2 => (leaf_mk (show removeL k [(a1, b1), (a2, b2)] = [(a1, b1), (a2, b2)] from by simp [removeL, List.filter, c1, c2]) ⟨_, _, [], rfl, rfl, by simp [p1], by simp⟩)))))
theorem without3 (k a1 b1 a2 b2 a3 b3 : ByteArray) (hk : inU asksU k = true) (n1 : inU namesU a1 = true) (n2 : inU namesU a2 = true) (n3 : inU namesU a3 = true) : FnOK 0 Tryz.prog 66 ⟨[fz ⟨List.map hv [(a1, b1), (a2, b2), (a3, b3)]⟩, .string k]⟩ h0 (fun v _ => v = fz ⟨(removeL k [(a1, b1), (a2, b2), (a3, b3)]).map hv⟩) := by
  refine FnOK.weak1 ((FnOK.ftree SD_ok mixed Tryz.func66 some66 (wo3 k a1 b1 a2 b2 a3 b3 (woPost k [(a1, b1), (a2, b2), (a3, b3)])) ?_).mono fun v g hw => woPost.weak hw)
  exact need_mk (and_mk n1 hk) (cond_mk (fun c1 => need_mk (and_mk n2 hk) (cond_mk (fun c2 => need_mk (and_mk n3 hk) (cond_mk (fun c3 => (leaf_mk (show removeL k [(a1, b1), (a2, b2), (a3, b3)] = [(a2, b2), (a3, b3)] from by simp [removeL, List.filter, c1, c2, c3]) ⟨_, _, [.string ⟨#[]⟩, .string ⟨#[]⟩], rfl, rfl, by simp [p1], by simp⟩)) (fun c3 => (leaf_mk (show removeL k [(a1, b1), (a2, b2), (a3, b3)] = [(a2, b2)] from by simp [removeL, List.filter, c1, c2, c3]) ⟨_, _, [.string ⟨#[]⟩, .string ⟨#[]⟩, .string ⟨#[]⟩, .string ⟨#[]⟩], rfl, rfl, by simp [p1], by simp⟩)))) (fun c2 => need_mk (and_mk n3 hk) (cond_mk (fun c3 => (leaf_mk (show removeL k [(a1, b1), (a2, b2), (a3, b3)] = [(a3, b3)] from by simp [removeL, List.filter, c1, c2, c3]) ⟨_, _, [.string ⟨#[]⟩, .string ⟨#[]⟩, .string ⟨#[]⟩, .string ⟨#[]⟩], rfl, rfl, by simp [p1], by simp⟩)) (fun c3 => (leaf_mk (show removeL k [(a1, b1), (a2, b2), (a3, b3)] = [] from by simp [removeL, List.filter, c1, c2, c3]) ⟨_, _, [.string ⟨#[]⟩, .string ⟨#[]⟩, .string ⟨#[]⟩, .string ⟨#[]⟩, .string ⟨#[]⟩, .string ⟨#[]⟩], rfl, rfl, by simp [p1], by simp⟩)))))) (fun c1 => need_mk (and_mk n2 hk) (cond_mk (fun c2 => need_mk (and_mk n3 hk) (cond_mk (fun c3 => (leaf_mk (show removeL k [(a1, b1), (a2, b2), (a3, b3)] = [(a1, b1), (a3, b3)] from by simp [removeL, List.filter, c1, c2, c3]) ⟨_, _, [.string ⟨#[]⟩, .string ⟨#[]⟩], rfl, rfl, by simp [p1], by simp⟩)) (fun c3 => (leaf_mk (show removeL k [(a1, b1), (a2, b2), (a3, b3)] = [(a1, b1)] from by simp [removeL, List.filter, c1, c2, c3]) ⟨_, _, [.string ⟨#[]⟩, .string ⟨#[]⟩, .string ⟨#[]⟩, .string ⟨#[]⟩], rfl, rfl, by simp [p1], by simp⟩)))) (fun c2 => need_mk (and_mk n3 hk) (cond_mk (fun c3 => (leaf_mk (show removeL k [(a1, b1), (a2, b2), (a3, b3)] = [(a1, b1), (a2, b2)] from by simp [removeL, List.filter, c1, c2, c3]) ⟨_, _, [.string ⟨#[]⟩, .string ⟨#[]⟩], rfl, rfl, by simp [p1], by simp⟩)) (fun c3 => (leaf_mk (show removeL k [(a1, b1), (a2, b2), (a3, b3)] = [(a1, b1), (a2, b2), (a3, b3)] from by simp [removeL, List.filter, c1, c2, c3]) ⟨_, _, [], rfl, rfl, by simp [p1], by simp⟩)))))))
theorem without4 (k a1 b1 a2 b2 a3 b3 a4 b4 : ByteArray) (hk : inU asksU k = true) (n1 : inU namesU a1 = true) (n2 : inU namesU a2 = true) (n3 : inU namesU a3 = true) (n4 : inU namesU a4 = true) : FnOK 0 Tryz.prog 66 ⟨[fz ⟨List.map hv [(a1, b1), (a2, b2), (a3, b3), (a4, b4)]⟩, .string k]⟩ h0 (fun v _ => v = fz ⟨(removeL k [(a1, b1), (a2, b2), (a3, b3), (a4, b4)]).map hv⟩) := by
  refine FnOK.weak1 ((FnOK.ftree SD_ok mixed Tryz.func66 some66 (wo4 k a1 b1 a2 b2 a3 b3 a4 b4 (woPost k [(a1, b1), (a2, b2), (a3, b3), (a4, b4)])) ?_).mono fun v g hw => woPost.weak hw)
  exact need_mk (and_mk n1 hk) (cond_mk (fun c1 => need_mk (and_mk n2 hk) (cond_mk (fun c2 => need_mk (and_mk n3 hk) (cond_mk (fun c3 => need_mk (and_mk n4 hk) (cond_mk (fun c4 => (leaf_mk (show removeL k [(a1, b1), (a2, b2), (a3, b3), (a4, b4)] = [(a2, b2), (a3, b3), (a4, b4)] from by simp [removeL, List.filter, c1, c2, c3, c4]) ⟨_, _, [.string ⟨#[]⟩, .string ⟨#[]⟩], rfl, rfl, by simp [p1], by simp⟩)) (fun c4 => (leaf_mk (show removeL k [(a1, b1), (a2, b2), (a3, b3), (a4, b4)] = [(a2, b2), (a3, b3)] from by simp [removeL, List.filter, c1, c2, c3, c4]) ⟨_, _, [.string ⟨#[]⟩, .string ⟨#[]⟩, .string ⟨#[]⟩, .string ⟨#[]⟩], rfl, rfl, by simp [p1], by simp⟩)))) (fun c3 => need_mk (and_mk n4 hk) (cond_mk (fun c4 => (leaf_mk (show removeL k [(a1, b1), (a2, b2), (a3, b3), (a4, b4)] = [(a2, b2), (a4, b4)] from by simp [removeL, List.filter, c1, c2, c3, c4]) ⟨_, _, [.string ⟨#[]⟩, .string ⟨#[]⟩, .string ⟨#[]⟩, .string ⟨#[]⟩], rfl, rfl, by simp [p1], by simp⟩)) (fun c4 => (leaf_mk (show removeL k [(a1, b1), (a2, b2), (a3, b3), (a4, b4)] = [(a2, b2)] from by simp [removeL, List.filter, c1, c2, c3, c4]) ⟨_, _, [.string ⟨#[]⟩, .string ⟨#[]⟩, .string ⟨#[]⟩, .string ⟨#[]⟩, .string ⟨#[]⟩, .string ⟨#[]⟩], rfl, rfl, by simp [p1], by simp⟩)))))) (fun c2 => need_mk (and_mk n3 hk) (cond_mk (fun c3 => need_mk (and_mk n4 hk) (cond_mk (fun c4 => (leaf_mk (show removeL k [(a1, b1), (a2, b2), (a3, b3), (a4, b4)] = [(a3, b3), (a4, b4)] from by simp [removeL, List.filter, c1, c2, c3, c4]) ⟨_, _, [.string ⟨#[]⟩, .string ⟨#[]⟩, .string ⟨#[]⟩, .string ⟨#[]⟩], rfl, rfl, by simp [p1], by simp⟩)) (fun c4 => (leaf_mk (show removeL k [(a1, b1), (a2, b2), (a3, b3), (a4, b4)] = [(a3, b3)] from by simp [removeL, List.filter, c1, c2, c3, c4]) ⟨_, _, [.string ⟨#[]⟩, .string ⟨#[]⟩, .string ⟨#[]⟩, .string ⟨#[]⟩, .string ⟨#[]⟩, .string ⟨#[]⟩], rfl, rfl, by simp [p1], by simp⟩)))) (fun c3 => need_mk (and_mk n4 hk) (cond_mk (fun c4 => (leaf_mk (show removeL k [(a1, b1), (a2, b2), (a3, b3), (a4, b4)] = [(a4, b4)] from by simp [removeL, List.filter, c1, c2, c3, c4]) ⟨_, _, [.string ⟨#[]⟩, .string ⟨#[]⟩, .string ⟨#[]⟩, .string ⟨#[]⟩, .string ⟨#[]⟩, .string ⟨#[]⟩], rfl, rfl, by simp [p1], by simp⟩)) (fun c4 => (leaf_mk (show removeL k [(a1, b1), (a2, b2), (a3, b3), (a4, b4)] = [] from by simp [removeL, List.filter, c1, c2, c3, c4]) ⟨_, _, [.string ⟨#[]⟩, .string ⟨#[]⟩, .string ⟨#[]⟩, .string ⟨#[]⟩, .string ⟨#[]⟩, .string ⟨#[]⟩, .string ⟨#[]⟩, .string ⟨#[]⟩], rfl, rfl, by simp [p1], by simp⟩)))))))) (fun c1 => need_mk (and_mk n2 hk) (cond_mk (fun c2 => need_mk (and_mk n3 hk) (cond_mk (fun c3 => need_mk (and_mk n4 hk) (cond_mk (fun c4 => (leaf_mk (show removeL k [(a1, b1), (a2, b2), (a3, b3), (a4, b4)] = [(a1, b1), (a3, b3), (a4, b4)] from by simp [removeL, List.filter, c1, c2, c3, c4]) ⟨_, _, [.string ⟨#[]⟩, .string ⟨#[]⟩], rfl, rfl, by simp [p1], by simp⟩)) (fun c4 => (leaf_mk (show removeL k [(a1, b1), (a2, b2), (a3, b3), (a4, b4)] = [(a1, b1), (a3, b3)] from by simp [removeL, List.filter, c1, c2, c3, c4]) ⟨_, _, [.string ⟨#[]⟩, .string ⟨#[]⟩, .string ⟨#[]⟩, .string ⟨#[]⟩], rfl, rfl, by simp [p1], by simp⟩)))) (fun c3 => need_mk (and_mk n4 hk) (cond_mk (fun c4 => (leaf_mk (show removeL k [(a1, b1), (a2, b2), (a3, b3), (a4, b4)] = [(a1, b1), (a4, b4)] from by simp [removeL, List.filter, c1, c2, c3, c4]) ⟨_, _, [.string ⟨#[]⟩, .string ⟨#[]⟩, .string ⟨#[]⟩, .string ⟨#[]⟩], rfl, rfl, by simp [p1], by simp⟩)) (fun c4 => (leaf_mk (show removeL k [(a1, b1), (a2, b2), (a3, b3), (a4, b4)] = [(a1, b1)] from by simp [removeL, List.filter, c1, c2, c3, c4]) ⟨_, _, [.string ⟨#[]⟩, .string ⟨#[]⟩, .string ⟨#[]⟩, .string ⟨#[]⟩, .string ⟨#[]⟩, .string ⟨#[]⟩], rfl, rfl, by simp [p1], by simp⟩)))))) (fun c2 => need_mk (and_mk n3 hk) (cond_mk (fun c3 => need_mk (and_mk n4 hk) (cond_mk (fun c4 => (leaf_mk (show removeL k [(a1, b1), (a2, b2), (a3, b3), (a4, b4)] = [(a1, b1), (a2, b2), (a4, b4)] from by simp [removeL, List.filter, c1, c2, c3, c4]) ⟨_, _, [.string ⟨#[]⟩, .string ⟨#[]⟩], rfl, rfl, by simp [p1], by simp⟩)) (fun c4 => (leaf_mk (show removeL k [(a1, b1), (a2, b2), (a3, b3), (a4, b4)] = [(a1, b1), (a2, b2)] from by simp [removeL, List.filter, c1, c2, c3, c4]) ⟨_, _, [.string ⟨#[]⟩, .string ⟨#[]⟩, .string ⟨#[]⟩, .string ⟨#[]⟩], rfl, rfl, by simp [p1], by simp⟩)))) (fun c3 => need_mk (and_mk n4 hk) (cond_mk (fun c4 => (leaf_mk (show removeL k [(a1, b1), (a2, b2), (a3, b3), (a4, b4)] = [(a1, b1), (a2, b2), (a3, b3)] from by simp [removeL, List.filter, c1, c2, c3, c4]) ⟨_, _, [.string ⟨#[]⟩, .string ⟨#[]⟩], rfl, rfl, by simp [p1], by simp⟩)) (fun c4 => (leaf_mk (show removeL k [(a1, b1), (a2, b2), (a3, b3), (a4, b4)] = [(a1, b1), (a2, b2), (a3, b3), (a4, b4)] from by simp [removeL, List.filter, c1, c2, c3, c4]) ⟨_, _, [], rfl, rfl, by simp [p1], by simp⟩)))))))))
theorem wo_fn (l : List (ByteArray × ByteArray)) (k : ByteArray) (h1 : 1 ≤ l.length) (h2 : l.length ≤ 4) (hk : inU asksU k = true) (hok : ∀ p ∈ l, inU namesU p.1 = true) :
    FnOK 0 Tryz.prog 66 ⟨[fz ⟨l.map hv⟩, .string k]⟩ h0 (fun v _ => v = fz ⟨(removeL k l).map hv⟩) := by
  match l, h1, h2, hok with
  | [(a1, b1)], _, _, hok => exact without1 k a1 b1 hk (hok (a1, b1) (by simp))
  | [(a1, b1), (a2, b2)], _, _, hok => exact without2 k a1 b1 a2 b2 hk (hok (a1, b1) (by simp)) (hok (a2, b2) (by simp))
  | [(a1, b1), (a2, b2), (a3, b3)], _, _, hok => exact without3 k a1 b1 a2 b2 a3 b3 hk (hok (a1, b1) (by simp)) (hok (a2, b2) (by simp)) (hok (a3, b3) (by simp))
  | [(a1, b1), (a2, b2), (a3, b3), (a4, b4)], _, _, hok => exact without4 k a1 b1 a2 b2 a3 b3 a4 b4 hk (hok (a1, b1) (by simp)) (hok (a2, b2) (by simp)) (hok (a3, b3) (by simp)) (hok (a4, b4) (by simp))
def spWo (f : FuncId) (args : Array Value) (h : AH) : Option (Bool × Value × AH) :=
  cond (Nat.beq f 66) (match args with
    | ⟨[.func (.yield 0) ⟨xs⟩ ⟨[]⟩, .string k]⟩ => some (xs.all shpH && (hlist xs).all okN && Nat.ble 1 xs.length && Nat.ble xs.length 4 && inU asksU k, fz ⟨(removeL k (hlist xs)).map hv⟩, h)
    | _ => none) none
theorem spWo_ok : SpOK spWo := by
  intro f args h v h' hs
  unfold spWo at hs
  obtain ⟨hf, hs2⟩ := cond_some hs
  clear hs
  have hs := hs2
  clear hs2
  have := Nat.eq_of_beq_eq_true hf
  subst this
  split at hs
  · rename_i xs k
    injection hs with hs
    injection hs with hb hs
    injection hs with hv hh
    subst hv hh
    simp only [Bool.and_eq_true, Nat.ble_eq] at hb
    have hF := wo_fn (hlist xs) k (by simpa [hlist] using hb.1.1.2) (by simpa [hlist] using hb.1.2) hb.2 (fun p hp => by simpa [okN] using List.all_eq_true.1 hb.1.1.1.2 p hp)
    rw [shpH_all hb.1.1.1.1] at hF
    exact ⟨FnOK.pure hF rfl rfl h, Nat.le_refl _⟩
  · cases hs
end Go.Proofs.YtfjfdemnnhfmoaaGreatDoor
