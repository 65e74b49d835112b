/-
  'cmp.Compare' and 'cmp.Or' for numbers, and the hash of a string, as specifications.
-/
import Derived.Test.YtbkccelgffopcaaGreatDoorEqB
namespace Go.Proofs.YtbkccelgffopcaaGreatDoor
open Go.Ev Go.RowKit

theorem hso (s : ByteArray) (h n i : Int) (B : List Value → AH → Prop) (Q : AExit → List Value → AH → Prop) : (once 0 Tryz.prog SQ [] noHooks 100 22 [0, 3, 6, 7] [] [3] [] (oneLoop (codeOf Tryz.f41) 3) [.string s, .int .u64 h, .int .i64 n, .int .i64 i] h0 B Q) =
    bif decide (i < n) then
      bif decide (0 ≤ i) && decide (i < (s.size : Int)) then
        B
          [Value.string s,
            Value.int IntKind.u64
              (IntKind.u64.wrap
                (IntKind.u64.wrap (BitVec.ofInt 64 h ^^^
                          BitVec.ofInt 64 (IntKind.u64.wrap (s.data.toList.getD i.toNat 0).toNat)).toNat *
                  1099511628211)),
            Value.int IntKind.i64 n, Value.int IntKind.i64 (IntKind.i64.wrap (i + 1))]
          { next := 0, low := 0, blocks := [] }
      else False
    else Q (AExit.exit 0) [Value.int IntKind.u64 h] { next := 0, low := 0, blocks := [] } := by kernel_rfl
theorem hsf (s : ByteArray) (r : Int) (C : List Value → AH → Prop) (Q : Value → AH → Prop) : (tfn Tryz.prog SQ [] (hook1 3 (hookLS 0 22 [0, 3, 6, 7] [] [3] (fun vals h K => C vals h ∧ K (.exit 0) [.int .u64 r] h0))) 200 [] Tryz.f41 [.string s] h0 Q) =
    (C [Value.string s, Value.int IntKind.u64 14695981039346656037, Value.int IntKind.i64 (s.size : Int), Value.int IntKind.i64 0]
        { next := 0, low := 0, blocks := [] } ∧
      Q (Value.int IntKind.u64 (IntKind.u64.wrap (BitVec.ofInt 64 r ^^^ BitVec.ofInt 64 (r.fdiv 4294967296)).toNat))
        { next := 0, low := 0, blocks := [] }) := by kernel_rfl
theorem cpi (x y : Int) (Q : Value → Prop) : (ffn Tryz.prog SQ [] 100 [] Tryz.f45 [.int .i64 x, .int .i64 y] h0 (fun v _ => Q v)) =
    bif x != x then bif y != y then Q (Value.int IntKind.i64 0) else Q (Value.int IntKind.i64 (-1))
    else
      bif y != y then Q (Value.int IntKind.i64 1)
      else
        bif decide (x < y) then Q (Value.int IntKind.i64 (-1))
        else bif decide (x > y) then Q (Value.int IntKind.i64 1) else Q (Value.int IntKind.i64 0) := by kernel_rfl
theorem ori (x y : Int) (Q : Value → Option Obj → Prop) : (ffn Tryz.prog SQ [] 100 [] Tryz.f44 [.slice (some ⟨0, 0, none⟩) 2 2] ⟨1, 1, [(0, .cells ⟨[.int .i64 x, .int .i64 y]⟩ 3)]⟩ (fun v h => Q v (h.get 0))) =
    bif x != 0 then
      Q (Value.int IntKind.i64 x)
        (some (Obj.cells { toList := [Value.int IntKind.i64 x, Value.int IntKind.i64 y] } 3 (0, 0)))
    else
      bif y != 0 then
        Q (Value.int IntKind.i64 y)
          (some (Obj.cells { toList := [Value.int IntKind.i64 x, Value.int IntKind.i64 y] } 3 (0, 0)))
      else
        Q (Value.int IntKind.i64 0)
          (some (Obj.cells { toList := [Value.int IntKind.i64 x, Value.int IntKind.i64 y] } 3 (0, 0))) := by kernel_rfl

theorem some41 : Tryz.f41.body.isSome = true := by kernel_rfl
theorem some45 : Tryz.f45.body.isSome = true := by kernel_rfl
theorem some44 : Tryz.f44.body.isSome = true := by kernel_rfl
def cmpI (x y : Int) : Int := cond (decide (x < y)) (-1) (cond (decide (x > y)) 1 0)
def orI (x y : Int) : Int := cond (x != 0) x y
theorem cmp_fn (x y : Int) : FnOK 0 Tryz.prog 45 ⟨[.int .i64 x, .int .i64 y]⟩ h0 (fun v _ => v = .int .i64 (cmpI x y)) := by
  refine FnOK.ftree SQ_ok mixed Tryz.func45 some45 (cpi x y (fun v => v = .int .i64 (cmpI x y))) ?_
  refine pick_f (by simp) (pick_f (by simp) ?_)
  unfold cmpI
  cases decide (x < y) <;> cases decide (x > y) <;> rfl
theorem or_fn (x y : Int) : FnOK 1 Tryz.prog 44 ⟨[.slice (some ⟨0, 0, none⟩) 2 2]⟩ ⟨1, 1, [(0, .cells ⟨[.int .i64 x, .int .i64 y]⟩ 3)]⟩ (fun u g => u = .int .i64 (orI x y) ∧ g.get 0 = some (.cells ⟨[.int .i64 x, .int .i64 y]⟩ 3 (0, 0))) := by
  refine FnOK.ftree (p := 1) SQ_ok mixed Tryz.func44 some44 (ori x y (fun u o => u = .int .i64 (orI x y) ∧ o = some (.cells ⟨[.int .i64 x, .int .i64 y]⟩ 3 (0, 0)))) ?_
  unfold orI
  cases hx : (x != 0) with
  | true => exact pick_t rfl ⟨rfl, rfl⟩
  | false =>
    refine pick_f rfl ?_
    refine cond_mk (fun _ => ⟨rfl, rfl⟩) (fun hy => ?_)
    have : y = 0 := by simpa using hy
    subst this
    exact ⟨rfl, rfl⟩
def spCmp (f : FuncId) (args : Array Value) (h : AH) : Option (Bool × Value × AH) :=
  cond (Nat.beq f 45) (match args with
    | ⟨[.int .i64 x, .int .i64 y]⟩ => some (true, .int .i64 (cmpI x y), h)
    | _ => none) none
theorem spCmp_ok : SpOK spCmp := by
  intro f args h v h' hs
  unfold spCmp at hs
  obtain ⟨hf, hs2⟩ := cond_some hs
  clear hs
  have := Nat.eq_of_beq_eq_true hf
  subst this
  split at hs2
  · injection hs2 with hs
    injection hs with hb hs
    injection hs with hv hh
    subst hv hh
    exact ⟨FnOK.pure (cmp_fn _ _) rfl rfl h, Nat.le_refl _⟩
  · cases hs2
def spOrI (f : FuncId) (args : Array Value) (h : AH) : Option (Bool × Value × AH) :=
  cond (Nat.beq f 44) (match args with
    | ⟨[.slice (some ⟨b, 0, none⟩) 2 2]⟩ => match h.get b with
      | some (.cells ⟨[.int .i64 x, .int .i64 y]⟩ t (0, 0)) => some (Nat.beq t 3, .int .i64 (orI x y), h)
      | _ => none
    | _ => none) none
theorem spOrI_ok : SpOK spOrI := by
  intro f args h v h' hs
  unfold spOrI at hs
  obtain ⟨hf, hs2⟩ := cond_some hs
  clear hs
  have := Nat.eq_of_beq_eq_true hf
  subst this
  split at hs2
  · rename_i b
    split at hs2
    · rename_i x y t hg
      injection hs2 with hs
      injection hs with hb hs
      injection hs with hv hh
      subst hv hh
      have := Nat.eq_of_beq_eq_true hb
      subst this
      refine ⟨?_, Nat.le_refl _⟩
      refine FnOK.reads (r := [(b, 0)]) (bl := [(0, .cells ⟨[.int .i64 x, .int .i64 y]⟩ 3)]) (small := [.slice (some ⟨0, 0, none⟩) 2 2]) ?_ ?_ ?_ ?_ ((or_fn x y).mono ?_) rfl
      · simp [renOk, renB, invB, eqO]
      · simp [ren2s, ren2, ren1, renB]
      · intro i o hi
        obtain ⟨rfl, rfl⟩ := look1 hi
        exact ⟨b, by simp, hg⟩
      · intro i o hi
        obtain ⟨rfl, rfl⟩ := look1 hi
        exact ⟨_, _, _, rfl, by simp [p1]⟩
      · rintro u g ⟨h1, h2⟩
        refine ⟨h1, fun i o hi => ?_⟩
        obtain ⟨rfl, rfl⟩ := look1 hi
        exact h2
    · cases hs2
  · cases hs2

/-- One byte of a hash. -/
def hbyte (h : Int) (b : UInt8) : Int := IntKind.u64.wrap (IntKind.u64.wrap (BitVec.ofInt 64 h ^^^ BitVec.ofInt 64 (IntKind.u64.wrap b.toNat)).toNat * 1099511628211)
def hfold : Int → List UInt8 → Int
  | h, [] => h
  | h, b :: l => hfold (hbyte h b) l
def hend (r : Int) : Int := IntKind.u64.wrap (BitVec.ofInt 64 r ^^^ BitVec.ofInt 64 (r.fdiv 4294967296)).toNat
def hashI (s : ByteArray) : Int := hend (hfold 14695981039346656037 s.data.toList)
theorem hashE (s : ByteArray) : ∃ n, n = hashI s := ⟨_, rfl⟩
/-- The hash of a string, as a number that nobody works out. -/
noncomputable def hashR (s : ByteArray) : Int := (hashE s).choose
theorem hashR_eq (s : ByteArray) : hashR s = hashI s := (hashE s).choose_spec
theorem dropD {α : Type} (l : List α) (d : α) (i : Nat) (h : i < l.length) : l.drop i = l.getD i d :: l.drop (i + 1) := by
  rw [List.drop_eq_getElem_cons h]
  simp [List.getD, h]
theorem hs_loop {F : Nat → List Value → AH → (AExit → List Value → AH → Prop) → Prop} {K : AExit → List Value → AH → Prop} {s : ByteArray} {n : Int}
    (hF : ∀ (m : Nat) (h i : Int), F (m + 1) [.string s, .int .u64 h, .int .i64 n, .int .i64 i] h0 K =
    bif decide (i < n) then
      bif decide (0 ≤ i) && decide (i < (s.size : Int)) then
        (fun v g => F m v g K)
          [Value.string s,
            Value.int IntKind.u64
              (IntKind.u64.wrap
                (IntKind.u64.wrap (BitVec.ofInt 64 h ^^^
                          BitVec.ofInt 64 (IntKind.u64.wrap (s.data.toList.getD i.toNat 0).toNat)).toNat *
                  1099511628211)),
            Value.int IntKind.i64 n, Value.int IntKind.i64 (IntKind.i64.wrap (i + 1))]
          { next := 0, low := 0, blocks := [] }
      else False
    else K (AExit.exit 0) [Value.int IntKind.u64 h] { next := 0, low := 0, blocks := [] })
    (hn : (s.data.toList.length : Int) = n) (h3 : n ≤ 4000) :
    ∀ (r i : Nat) (h : Int), (i : Int) + r = n → K (.exit 0) [.int .u64 (hfold h (s.data.toList.drop i))] h0 → F (r + 1) [.string s, .int .u64 h, .int .i64 n, .int .i64 i] h0 K := by
  intro r
  induction r with
  | zero =>
    intro i h h4 h5
    rw [hF]
    refine pick_f (by simp; omega) ?_
    rw [List.drop_eq_nil_of_le (by omega)] at h5
    exact h5
  | succ r ih =>
    intro i h h4 h5
    rw [hF]
    have i1 : i < s.data.toList.length := by omega
    have i2 : (i : Int) < (s.size : Int) := by
      show (i : Int) < ((s.data.toList.length : Nat) : Int)
      omega
    have e : s.data.toList.drop i = s.data.toList.getD i 0 :: s.data.toList.drop (i + 1) := dropD _ 0 i i1
    rw [e] at h5
    refine pick_t (by simp; omega) (need_mk (by rw [Bool.and_eq_true]; exact ⟨by simp, decide_eq_true i2⟩) ?_)
    have ew : IntKind.i64.wrap ((i : Int) + 1) = ((i + 1 : Nat) : Int) := by rw [wrap_id _ (by omega) (by omega)]; rfl
    rw [Int.toNat_natCast, ew]
    exact ih (i + 1) _ (by omega) h5
theorem one41 : (loopAt (codeOf Tryz.f41) 3).length = 1 := by kernel_rfl
theorem hash_fn (s : ByteArray) (h : s.size ≤ 4000) : FnOK 0 Tryz.prog 41 ⟨[.string s]⟩ h0 (fun v _ => v = .int .u64 (hashR s)) := by
  have hC : LSpec 0 Tryz.prog 22 (oneLoop (codeOf Tryz.f41) 3) (hookLS 0 22 [0, 3, 6, 7] [] [3] (fun vals h K => (vals = [.string s, .int .u64 14695981039346656037, .int .i64 (s.size : Int), .int .i64 0] ∧ h = h0) ∧ K (.exit 0) [.int .u64 (hfold 14695981039346656037 s.data.toList)] h0)) := by
    refine hook_ok (G := []) (L := noHooks) (f := 100) (sameX := []) SQ_ok mixed (by decide) (loops_none _ _ _ _) ?_
    rintro vals h K ⟨⟨rfl, rfl⟩, hK⟩
    refine ⟨s.size + 1, ?_⟩
    exact hs_loop (F := iter 0 Tryz.prog SQ [] noHooks 100 22 [0, 3, 6, 7] [] [3] [] (oneLoop (codeOf Tryz.f41) 3)) (K := K) (fun m h i => hso s h _ i _ K) rfl (by have : s.data.toList.length = s.size := rfl; omega) s.size 0 _ (by simp) hK
  refine FnOK.ttree SQ_ok mixed Tryz.func41 some41 (loops_one one41 hC) (hsf s (hfold 14695981039346656037 s.data.toList) (fun vals h => vals = [.string s, .int .u64 14695981039346656037, .int .i64 (s.size : Int), .int .i64 0] ∧ h = h0) _) ?_
  refine ⟨⟨rfl, rfl⟩, ?_⟩
  rw [hashR_eq]; rfl
noncomputable def spHash (f : FuncId) (args : Array Value) (h : AH) : Option (Bool × Value × AH) :=
  cond (Nat.beq f 41) (match args with
    | ⟨[.string s]⟩ => some (Nat.ble s.size 4000, .int .u64 (hashR s), h)
    | _ => none) none
theorem spHash_ok : SpOK spHash := by
  intro f args h v h' hs
  unfold spHash at hs
  obtain ⟨hf, hs2⟩ := cond_some hs
  clear hs
  have := Nat.eq_of_beq_eq_true hf
  subst this
  split at hs2
  · injection hs2 with hs
    injection hs with hb hs
    injection hs with hv hh
    subst hv hh
    exact ⟨FnOK.pure (hash_fn _ (by simpa using hb)) rfl rfl h, Nat.le_refl _⟩
  · cases hs2
end Go.Proofs.YtbkccelgffopcaaGreatDoor
