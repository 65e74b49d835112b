/-
  Headers: Client's loop.
-/
import Derived.Test.YtfjfdemnnhfmoaaGreatDoorHoL
namespace Go.Ev
theorem IterOK.mono {α : Type} {p : Nat} {P : Program} {gf : Nat} {lbA : Array Value} {h : AH} {HI HJ : AH → Prop} {encs : α → Array Value} {S Sp : List α → Prop} {M : Nat} (hi : IterOK p P gf lbA h HI encs S Sp M) (hm : ∀ h', HJ h' → HI h') : IterOK p P gf lbA h HJ encs S Sp M := by
  intro n N w lb a b c d
  obtain ⟨G, g1, g2, g3, g4⟩ := hi n N w lb a b c d
  exact ⟨G, g1, g2, fun N' h' W x y z => g3 N' h' W x y (hm h' z), g4⟩
theorem allCells_of {nx lw : Nat} : ∀ {l : List (Nat × Obj)}, (∀ q ∈ l, ∃ c t fr, q.2 = Obj.cells c t fr) → AllCells ⟨nx, lw, l⟩ := by
  intro l h i o hi0
  have hi : look i l = some o := hi0
  clear hi0
  induction l with
  | nil => cases hi
  | cons q l ih =>
    obtain ⟨j, u⟩ := q
    unfold look at hi
    cases hb : Nat.beq j i with
    | true =>
      rw [hb] at hi
      cases hi
      exact h (j, o) (by simp)
    | false =>
      rw [hb] at hi
      exact ih (fun q hq => h q (by simp [hq])) hi
end Go.Ev
namespace Go.Proofs.YtfjfdemnnhfmoaaGreatDoor
open Go.Ev Go.RowKit RecLaw PathLaw HopLaw

noncomputable def SCb : SC := ⟨idn, fun _ _ _ => none, false, true⟩
theorem SCb_ok : SCb.cfg.OK Tryz.prog := none_ok.cfg
def lastB : ByteArray := ⟨#[56, 46, 56, 46, 56, 46, 56]⟩
/-- The state at the loop: the senders zs, with the box of the list that is ranged over. -/
def clV (n : Nat) : List Value := [.pointer (some ⟨1, 0, none⟩), .pointer (some ⟨2, 0, none⟩), .pointer (some ⟨3, 0, none⟩), .slice (some ⟨4, 0, none⟩) n n, .func (.func 138) ⟨[]⟩ ⟨[.pointer (some ⟨5, 0, none⟩)]⟩]
def clH (s : ByteArray) (n : Nat) (cs : List Value) : AH := ⟨6, 6, [(0, .cells ⟨[.string lastB]⟩ 9 (0, 0)), (1, .cells ⟨[.slice (some ⟨0, 0, none⟩) 1 1]⟩ 30 (0, 0)), (2, .cells ⟨[.string s]⟩ 9 (0, 0)), (3, .cells ⟨[.int .i64 0]⟩ 27 (0, 0)), (4, .cells ⟨cs⟩ 9 (0, 0)), (5, .cells ⟨[.slice (some ⟨4, 0, none⟩) n n]⟩ 30 (0, 0))]⟩
def clL : List Nat := [3, 4, 5, 7, 33]
noncomputable def clT (n : Nat) (i : Int) (s : ByteArray) : List Value := ((expand 47 clL (clV n)).set 34 (.int .i64 i)).set 35 (.string s)
noncomputable def clT2 (n : Nat) (i : Int) (s : ByteArray) : List Value := (clT n i s).set 9 (.string s)
def clR (s : ByteArray) (n : Nat) (cs : List Value) : AH := { clH s n cs with low := 2 }
def rgA : Code → Code
  | .rangeFunc _ _ a _ => a
  | c => c
def rgB : Code → Code
  | .rangeFunc _ _ _ b => b
  | c => c
def toldS (s : ByteArray) : Bool := s.toList == lastB.toList
theorem cl_body (n : Nat) (i : Int) (s z : ByteArray) (cs : List Value) (Q : AExit → AH → Prop) : fcode Tryz.prog SCb [] 600 47 [] (rgB (oneRange (codeOf Tryz.f19) 12)) (FT.ofArgs (clT2 n i s) 0 .nil) (clH z n cs) 0 (fun _ e _ h' => Q e h') =
    bif toldS s then Q .normal (clH z n cs) else Q .ret (clR s n cs) := by kernel_rfl
theorem cl_assign (n : Nat) (i : Int) (s z : ByteArray) (cs : List Value) (Q : AExit → Array Value → AH → Prop) : fcode Tryz.prog SCb [] 600 47 [] (rgA (oneRange (codeOf Tryz.f19) 12)) (FT.ofArgs (clT n i s) 0 .nil) (clH z n cs) 0 (fun _ e t' h' => Q e (t'.arr 47) h') =
    Q .normal ⟨clT2 n i s⟩ (clH z n cs) := by kernel_rfl
theorem cl_code : oneRange (codeOf Tryz.f19) 12 = .rangeFunc (.tmp 33) #[34, 35] (rgA (oneRange (codeOf Tryz.f19) 12)) (rgB (oneRange (codeOf Tryz.f19) 12)) := by kernel_rfl
theorem cl_na : norf (rgA (oneRange (codeOf Tryz.f19) 12)) = true := by kernel_rfl
theorem cl_nb : norf (rgB (oneRange (codeOf Tryz.f19) 12)) = true := by kernel_rfl
theorem cl_set (n : Nat) (i : Int) (s : ByteArray) : ((#[34, 35] : Array Tmp).zip #[Value.int .i64 i, .string s]).foldl (fun (t : Array Value) ((p, v) : Tmp × Value) => t.setIfInBounds p v) (⟨expand 47 clL (clV n)⟩ : Array Value) = (⟨clT n i s⟩ : Array Value) := by kernel_rfl
theorem cl_cells (z : ByteArray) (n : Nat) (cs : List Value) : AllCells (clH z n cs) := by
  refine allCells_of fun q hq => ?_
  simp only [List.mem_cons, List.not_mem_nil, or_false] at hq
  rcases hq with rfl | rfl | rfl | rfl | rfl | rfl <;> exact ⟨_, _, _, rfl⟩
theorem cl_tri {p : Nat} {zs : List ByteArray} (z : ByteArray) (hz : zs ≠ []) (hl : zs.length ≤ 5000) : Tri p Tryz.prog (oneRange (codeOf Tryz.f19) 12) ⟨expand 47 clL (clV zs.length)⟩ (clH z zs.length (zs.map Value.string)) (fun e τ' h' => τ' = ⟨expand 47 clL (clV zs.length)⟩ ∧ match e with
    | .normal => h' = clH z zs.length (zs.map Value.string) ∧ ∀ y ∈ upto (bwd zs) zs.length, toldS y.2 = true
    | .exit _ => False
    | .ret => ∃ k ini x, k ≤ zs.length ∧ upto (bwd zs) k = ini ++ [x] ∧ (∀ y ∈ ini, toldS y.2 = true) ∧ toldS x.2 = false ∧ h' = clR x.2 zs.length (zs.map Value.string)) := by
  rw [cl_code]
  refine Tri.rangeFunc (gf := 138) (lbA := #[.pointer (some ⟨5, 0, none⟩)]) (encs := fun x : Int × ByteArray => #[Value.int .i64 x.1, .string x.2]) (by kernel_rfl) (enters_of Tryz.func138 (by kernel_rfl) rfl) (fun h' => h' = clH z zs.length (zs.map Value.string))
    (IterOK.mono (bw_iter (B0 := 5) (k := 4) (c := zs.length) hz hl ⟨rfl, rfl⟩) (fun h' e => by subst e; exact ⟨rfl, rfl⟩)) (fun _ => rfl) ?_ cl_na cl_nb (fun pre => ∀ y ∈ pre, toldS y.2 = true)
    (fun e pre h' => e = .ret ∧ ∃ ini x, pre = ini ++ [x] ∧ (∀ y ∈ ini, toldS y.2 = true) ∧ toldS x.2 = false ∧ h' = clR x.2 zs.length (zs.map Value.string))
    (fun x τ' h' => τ' = ⟨clT2 zs.length x.1 x.2⟩ ∧ h' = clH z zs.length (zs.map Value.string)) (by simp) rfl (cl_cells _ _ _) ?_ ?_ ?_ ?_
  · intro x N v hv
    rcases List.mem_cons.1 hv with rfl | hv
    · exact .int _ _
    · rw [List.mem_singleton.1 hv]; exact .string _
  · rintro ⟨i, s⟩ h1 rfl hc
    rw [cl_set]
    exact Tri.ftree SCb_ok mixed (by kernel_rfl) (by decide) (cl_assign _ _ _ _ _ (fun e τ' h' => e = .normal ∧ h' = clH z zs.length (zs.map Value.string) ∧ AllCells h' ∧ τ' = ⟨clT2 zs.length i s⟩ ∧ h' = clH z zs.length (zs.map Value.string))) ⟨rfl, rfl, cl_cells _ _ _, rfl, rfl⟩
  · rintro pre ⟨i, s⟩ τ1 h1 hp ⟨rfl, rfl⟩ hc
    refine Tri.ftree SCb_ok mixed (by kernel_rfl) (by decide) (cl_body _ _ _ _ _ (fun e h' => AllCells h' ∧ match e with | .normal => h' = clH z zs.length (zs.map Value.string) ∧ ∀ y ∈ pre ++ [(i, s)], toldS y.2 = true | e => e = .ret ∧ ∃ ini x, pre ++ [(i, s)] = ini ++ [x] ∧ (∀ y ∈ ini, toldS y.2 = true) ∧ toldS x.2 = false ∧ h' = clR x.2 zs.length (zs.map Value.string))) ?_
    cases hs : toldS s with
    | true => exact ⟨cl_cells _ _ _, rfl, fun y hy => (List.mem_append.1 hy).elim (hp y) fun q => by rw [List.mem_singleton.1 q]; exact hs⟩
    | false => exact ⟨cl_cells s _ _, rfl, pre, (i, s), rfl, hp, hs, rfl⟩
  · rintro xs h' rfl hp rfl hc
    exact ⟨rfl, rfl, hp⟩
  · rintro e pre h' ⟨k, hk, rfl⟩ ⟨rfl, ini, x, e1, e2, e3, rfl⟩
    exact ⟨rfl, k, ini, x, hk, e1, e2, e3, rfl⟩
end Go.Proofs.YtfjfdemnnhfmoaaGreatDoor
