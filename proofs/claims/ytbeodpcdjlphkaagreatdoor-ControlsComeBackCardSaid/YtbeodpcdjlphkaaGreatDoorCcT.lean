/-
  What headers say about caches: 'told', a part each.
-/
import Derived.Test.YtbeodpcdjlphkaaGreatDoorCcB
namespace Go.Proofs.YtbeodpcdjlphkaaGreatDoor
open Go.Ev Go.RowKit CtrlLaw

/-- What is known, by its cells. -/
def ctC (c : Ct) : List Value := [.bool c.b0, .bool c.b1, .bool c.b2, .bool c.b3, .bool c.b4, .bool c.b5, .int .i64 c.n0, .int .i64 c.n1, .int .i64 c.n2, .int .i64 c.n3, .int .i64 c.n4, .int .i64 c.n5]
def SB9 : SC := ⟨idn, fun _ _ _ => none, false, false⟩
theorem SB9_ok : SB9.cfg.OK Tryz.prog := none_ok.cfg
theorem someTO : Tryz.f70.body.isSome = true := by kernel_rfl
def ToOK (q : Part) : Prop := ∀ c : Ct, FnOK 1 Tryz.prog 70 ⟨[.pointer (some ⟨0, 0, none⟩), .string (bl (strP q))]⟩ (Ev.h1 (.cells ⟨ctC c⟩ 55 (0, 0))) (fun v g => v = .bool true ∧ g.get 0 = some (.cells ⟨ctC (updQ q c)⟩ 55 (0, 0)))
theorem num0 (c : Ct) (v : Nat) : bif c.n0 == -1 then (Value.bool true = .bool true ∧ some (Obj.cells ⟨ctC { c with n0 := (v : Int) }⟩ 55 (0, 0)) = some (.cells ⟨ctC (updQ (.num 0 v) c)⟩ 55 (0, 0))) else bif decide ((v : Int) < c.n0) then
    (Value.bool true = .bool true ∧ some (Obj.cells ⟨ctC { c with n0 := (v : Int) }⟩ 55 (0, 0)) = some (.cells ⟨ctC (updQ (.num 0 v) c)⟩ 55 (0, 0))) else (Value.bool true = .bool true ∧ some (Obj.cells ⟨ctC c⟩ 55 (0, 0)) = some (.cells ⟨ctC (updQ (.num 0 v) c)⟩ 55 (0, 0))) := by
  by_cases h1 : c.n0 = -1
  · have e : updQ (.num 0 v) c = { c with n0 := (v : Int) } := by show { c with n0 := setN c.n0 v } = _; rw [setN, if_pos (Or.inl h1)]
    rw [e]
    exact pick_t (by rw [h1]; rfl) ⟨rfl, rfl⟩
  · refine pick_f (beq_eq_false_iff_ne.2 h1) ?_
    by_cases h2 : (v : Int) < c.n0
    · have e : updQ (.num 0 v) c = { c with n0 := (v : Int) } := by show { c with n0 := setN c.n0 v } = _; rw [setN, if_pos (Or.inr h2)]
      rw [e]
      exact pick_t (decide_eq_true h2) ⟨rfl, rfl⟩
    · have e : updQ (.num 0 v) c = c := by show { c with n0 := setN c.n0 v } = _; rw [setN, if_neg (by omega)]
      rw [e]
      exact pick_f (decide_eq_false h2) ⟨rfl, rfl⟩
theorem num1 (c : Ct) (v : Nat) : bif c.n1 == -1 then (Value.bool true = .bool true ∧ some (Obj.cells ⟨ctC { c with n1 := (v : Int) }⟩ 55 (0, 0)) = some (.cells ⟨ctC (updQ (.num 1 v) c)⟩ 55 (0, 0))) else bif decide ((v : Int) < c.n1) then
    (Value.bool true = .bool true ∧ some (Obj.cells ⟨ctC { c with n1 := (v : Int) }⟩ 55 (0, 0)) = some (.cells ⟨ctC (updQ (.num 1 v) c)⟩ 55 (0, 0))) else (Value.bool true = .bool true ∧ some (Obj.cells ⟨ctC c⟩ 55 (0, 0)) = some (.cells ⟨ctC (updQ (.num 1 v) c)⟩ 55 (0, 0))) := by
  by_cases h1 : c.n1 = -1
  · have e : updQ (.num 1 v) c = { c with n1 := (v : Int) } := by show { c with n1 := setN c.n1 v } = _; rw [setN, if_pos (Or.inl h1)]
    rw [e]
    exact pick_t (by rw [h1]; rfl) ⟨rfl, rfl⟩
  · refine pick_f (beq_eq_false_iff_ne.2 h1) ?_
    by_cases h2 : (v : Int) < c.n1
    · have e : updQ (.num 1 v) c = { c with n1 := (v : Int) } := by show { c with n1 := setN c.n1 v } = _; rw [setN, if_pos (Or.inr h2)]
      rw [e]
      exact pick_t (decide_eq_true h2) ⟨rfl, rfl⟩
    · have e : updQ (.num 1 v) c = c := by show { c with n1 := setN c.n1 v } = _; rw [setN, if_neg (by omega)]
      rw [e]
      exact pick_f (decide_eq_false h2) ⟨rfl, rfl⟩
theorem num2 (c : Ct) (v : Nat) : bif c.n2 == -1 then (Value.bool true = .bool true ∧ some (Obj.cells ⟨ctC { c with n2 := (v : Int) }⟩ 55 (0, 0)) = some (.cells ⟨ctC (updQ (.num 2 v) c)⟩ 55 (0, 0))) else bif decide ((v : Int) < c.n2) then
    (Value.bool true = .bool true ∧ some (Obj.cells ⟨ctC { c with n2 := (v : Int) }⟩ 55 (0, 0)) = some (.cells ⟨ctC (updQ (.num 2 v) c)⟩ 55 (0, 0))) else (Value.bool true = .bool true ∧ some (Obj.cells ⟨ctC c⟩ 55 (0, 0)) = some (.cells ⟨ctC (updQ (.num 2 v) c)⟩ 55 (0, 0))) := by
  by_cases h1 : c.n2 = -1
  · have e : updQ (.num 2 v) c = { c with n2 := (v : Int) } := by show { c with n2 := setN c.n2 v } = _; rw [setN, if_pos (Or.inl h1)]
    rw [e]
    exact pick_t (by rw [h1]; rfl) ⟨rfl, rfl⟩
  · refine pick_f (beq_eq_false_iff_ne.2 h1) ?_
    by_cases h2 : (v : Int) < c.n2
    · have e : updQ (.num 2 v) c = { c with n2 := (v : Int) } := by show { c with n2 := setN c.n2 v } = _; rw [setN, if_pos (Or.inr h2)]
      rw [e]
      exact pick_t (decide_eq_true h2) ⟨rfl, rfl⟩
    · have e : updQ (.num 2 v) c = c := by show { c with n2 := setN c.n2 v } = _; rw [setN, if_neg (by omega)]
      rw [e]
      exact pick_f (decide_eq_false h2) ⟨rfl, rfl⟩
theorem num3 (c : Ct) (v : Nat) : bif c.n3 == -1 then (Value.bool true = .bool true ∧ some (Obj.cells ⟨ctC { c with n3 := (v : Int) }⟩ 55 (0, 0)) = some (.cells ⟨ctC (updQ (.num 3 v) c)⟩ 55 (0, 0))) else bif decide ((v : Int) < c.n3) then
    (Value.bool true = .bool true ∧ some (Obj.cells ⟨ctC { c with n3 := (v : Int) }⟩ 55 (0, 0)) = some (.cells ⟨ctC (updQ (.num 3 v) c)⟩ 55 (0, 0))) else (Value.bool true = .bool true ∧ some (Obj.cells ⟨ctC c⟩ 55 (0, 0)) = some (.cells ⟨ctC (updQ (.num 3 v) c)⟩ 55 (0, 0))) := by
  by_cases h1 : c.n3 = -1
  · have e : updQ (.num 3 v) c = { c with n3 := (v : Int) } := by show { c with n3 := setN c.n3 v } = _; rw [setN, if_pos (Or.inl h1)]
    rw [e]
    exact pick_t (by rw [h1]; rfl) ⟨rfl, rfl⟩
  · refine pick_f (beq_eq_false_iff_ne.2 h1) ?_
    by_cases h2 : (v : Int) < c.n3
    · have e : updQ (.num 3 v) c = { c with n3 := (v : Int) } := by show { c with n3 := setN c.n3 v } = _; rw [setN, if_pos (Or.inr h2)]
      rw [e]
      exact pick_t (decide_eq_true h2) ⟨rfl, rfl⟩
    · have e : updQ (.num 3 v) c = c := by show { c with n3 := setN c.n3 v } = _; rw [setN, if_neg (by omega)]
      rw [e]
      exact pick_f (decide_eq_false h2) ⟨rfl, rfl⟩
theorem num4 (c : Ct) (v : Nat) : bif c.n4 == -1 then (Value.bool true = .bool true ∧ some (Obj.cells ⟨ctC { c with n4 := (v : Int) }⟩ 55 (0, 0)) = some (.cells ⟨ctC (updQ (.num 4 v) c)⟩ 55 (0, 0))) else bif decide ((v : Int) < c.n4) then
    (Value.bool true = .bool true ∧ some (Obj.cells ⟨ctC { c with n4 := (v : Int) }⟩ 55 (0, 0)) = some (.cells ⟨ctC (updQ (.num 4 v) c)⟩ 55 (0, 0))) else (Value.bool true = .bool true ∧ some (Obj.cells ⟨ctC c⟩ 55 (0, 0)) = some (.cells ⟨ctC (updQ (.num 4 v) c)⟩ 55 (0, 0))) := by
  by_cases h1 : c.n4 = -1
  · have e : updQ (.num 4 v) c = { c with n4 := (v : Int) } := by show { c with n4 := setN c.n4 v } = _; rw [setN, if_pos (Or.inl h1)]
    rw [e]
    exact pick_t (by rw [h1]; rfl) ⟨rfl, rfl⟩
  · refine pick_f (beq_eq_false_iff_ne.2 h1) ?_
    by_cases h2 : (v : Int) < c.n4
    · have e : updQ (.num 4 v) c = { c with n4 := (v : Int) } := by show { c with n4 := setN c.n4 v } = _; rw [setN, if_pos (Or.inr h2)]
      rw [e]
      exact pick_t (decide_eq_true h2) ⟨rfl, rfl⟩
    · have e : updQ (.num 4 v) c = c := by show { c with n4 := setN c.n4 v } = _; rw [setN, if_neg (by omega)]
      rw [e]
      exact pick_f (decide_eq_false h2) ⟨rfl, rfl⟩
theorem num5 (c : Ct) (v : Nat) : bif c.n5 == -1 then (Value.bool true = .bool true ∧ some (Obj.cells ⟨ctC { c with n5 := (v : Int) }⟩ 55 (0, 0)) = some (.cells ⟨ctC (updQ (.num 5 v) c)⟩ 55 (0, 0))) else bif decide ((v : Int) < c.n5) then
    (Value.bool true = .bool true ∧ some (Obj.cells ⟨ctC { c with n5 := (v : Int) }⟩ 55 (0, 0)) = some (.cells ⟨ctC (updQ (.num 5 v) c)⟩ 55 (0, 0))) else (Value.bool true = .bool true ∧ some (Obj.cells ⟨ctC c⟩ 55 (0, 0)) = some (.cells ⟨ctC (updQ (.num 5 v) c)⟩ 55 (0, 0))) := by
  by_cases h1 : c.n5 = -1
  · have e : updQ (.num 5 v) c = { c with n5 := (v : Int) } := by show { c with n5 := setN c.n5 v } = _; rw [setN, if_pos (Or.inl h1)]
    rw [e]
    exact pick_t (by rw [h1]; rfl) ⟨rfl, rfl⟩
  · refine pick_f (beq_eq_false_iff_ne.2 h1) ?_
    by_cases h2 : (v : Int) < c.n5
    · have e : updQ (.num 5 v) c = { c with n5 := (v : Int) } := by show { c with n5 := setN c.n5 v } = _; rw [setN, if_pos (Or.inr h2)]
      rw [e]
      exact pick_t (decide_eq_true h2) ⟨rfl, rfl⟩
    · have e : updQ (.num 5 v) c = c := by show { c with n5 := setN c.n5 v } = _; rw [setN, if_neg (by omega)]
      rw [e]
      exact pick_f (decide_eq_false h2) ⟨rfl, rfl⟩
end Go.Proofs.YtbeodpcdjlphkaaGreatDoor
