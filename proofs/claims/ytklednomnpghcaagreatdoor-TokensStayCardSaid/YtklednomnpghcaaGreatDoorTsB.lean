/-
  Tokens stay: spoil, on a row.
-/
import Derived.Test.YtklednomnpghcaaGreatDoorTsA
namespace Go.Proofs.YtklednomnpghcaaGreatDoor
open Go.Ev Go.RowKit

/-- A function that changes one block of plain values, and hands back nothing. -/
theorem upd0 {f : FuncId} {cs cs' : List Value} {t : TypeId} {fr fr' : Nat × Nat} {n c b : Nat} {rest : List Value} {H : AH}
    (hF : FnOK 1 Tryz.prog f ⟨.slice (some ⟨0, 0, none⟩) n c :: rest⟩ ⟨1, 1, [(0, .cells ⟨cs⟩ t fr)]⟩ (fun v g => v = .tuple ⟨[]⟩ ∧ g.get 0 = some (.cells ⟨cs'⟩ t fr')))
    (hr : ren2s [(b, 0)] rest = some rest) (hp : ∀ x ∈ cs, p1 x = true) (hp' : ∀ x ∈ cs', p1 x = true) (hb : H.get b = some (.cells ⟨cs⟩ t fr)) (hlt : Nat.blt b H.next = true) :
    CallOK Tryz.prog f ⟨.slice (some ⟨b, 0, none⟩) n c :: rest⟩ H (.tuple ⟨[]⟩) (H.set b (.cells ⟨cs'⟩ t fr')) := by
  have hset : (H.set b (.cells ⟨cs'⟩ t fr')).get b = some (.cells ⟨cs'⟩ t fr') := look_setB_self hb
  have hne : ∀ a, a ≠ b → (H.set b (.cells ⟨cs'⟩ t fr')).get a = H.get a := fun a ha => look_setB_ne ha _ H.blocks
  refine FnOK.frame (r := [(b, 0)]) (q := [(0, b)]) (bl := [(0, .cells ⟨cs⟩ t fr)]) (bl' := [(0, .cells ⟨cs'⟩ t fr')]) (nx := 1) (lw := 1) (u := .tuple ⟨[]⟩) (small := .slice (some ⟨0, 0, none⟩) n c :: rest)
    (by simp [renOk, renB, invB, eqO]) (by simp [ren2s, ren2, ren1, ren0, renB, hr]) ?_ ?_ ?_ ?_ rfl ?_ ?_ (Nat.le_refl _) (Nat.min_le_left _ _) ?_
  · intro i o hi
    unfold Ev.look at hi
    obtain ⟨h1, h2⟩ := cond_some hi
    cases h2
    have := Nat.eq_of_beq_eq_true h1
    subst this
    exact ⟨b, _, true, by simp, hb, rfl, fun _ x hx => hp x (by simpa using hx)⟩
  · refine FnOK.weak1 (hF.mono ?_)
    rintro v g ⟨rfl, hg⟩
    refine ⟨_, _, Weak.norm [true] [(0, 0)] [0] 1 rfl rfl rfl (bl := [(0, .cells ⟨cs'⟩ t fr')]) (by simp [renH, hg, renO]) ?_, rfl, rfl⟩
    intro a ha o ho
    simp only [List.mem_singleton] at ha
    subst ha
    rw [hg] at ho
    cases ho
    exact fun x hx => hp' x (by simpa using hx)
  · have hlt : Nat.blt b (H.set b (.cells ⟨cs'⟩ t fr')).next = true := hlt
    simp [renOk, renB, invB, eqO, hlt]
  · intro i a h
    simp only [List.mem_singleton, Prod.mk.injEq] at h
    obtain ⟨rfl, rfl⟩ := h
    exact .inl ⟨by simp, by rw [hb]; rfl⟩
  · intro a o2 ha
    by_cases hab : a = b
    · subst hab
      rw [hset] at ha
      cases ha
      exact .inr ⟨0, _, true, by simp, rfl, rfl, fun _ x hx => hp' x (by simpa using hx)⟩
    · rw [hne a hab] at ha
      exact .inl ⟨ha, fun i hi => by simp only [List.mem_singleton, Prod.mk.injEq] at hi; exact hab hi.1⟩
  · intro hids a o ha
    by_cases hab : a = b
    · subst hab
      exact hids a _ hb
    · rw [hne a hab] at ha
      exact hids a o ha
  · intro i _ hlow
    have hlow : i < min H.low b := hlow
    exact hne i (by omega)
noncomputable def SNz : SC := ⟨idn, fun _ _ _ => none, false, true⟩
theorem SNz_ok : SNz.cfg.OK Tryz.prog := none_ok.cfg
def rpt (z : List Value) : Nat → List Value → List Value
  | 0, r => r
  | n + 1, r => z ++ rpt z n r
/-- The first n elements, wiped out. -/
def zed (z : List Value) (n : Nat) (cs : List Value) : List Value := rpt z n (cs.drop (n * z.length))
theorem rpt_p1 {z : List Value} (hz : z.all p1 = true) : ∀ (n : Nat) (r : List Value), (∀ x ∈ r, p1 x = true) → ∀ x ∈ rpt z n r, p1 x = true
  | 0, r, h => h
  | n + 1, r, h => by
    intro x hx
    rcases List.mem_append.1 hx with hx | hx
    · exact List.all_eq_true.1 hz x hx
    · exact rpt_p1 hz n r h x hx
theorem zed_p1 {z : List Value} (hz : z.all p1 = true) {n : Nat} {cs : List Value} (h : ∀ x ∈ cs, p1 x = true) : ∀ x ∈ zed z n cs, p1 x = true :=
  rpt_p1 hz n _ fun x hx => h x (List.mem_of_mem_drop hx)
theorem un1 {n : Nat} {cs : List Value} (h : n + 1 ≤ cs.length) : ∃ a r, cs = a :: r ∧ n ≤ r.length := by
  cases cs with
  | nil => simp at h
  | cons a r => exact ⟨a, r, rfl, by simp at h; omega⟩
def OKZ (m w n : Nat) (cs : List Value) : Prop := n ≤ m ∧ n * w ≤ cs.length ∧ ∀ x ∈ cs, p1 x = true
open Classical in
noncomputable def okZ (m w n : Nat) (cs : List Value) : Bool := @decide (OKZ m w n cs) (Classical.propDecidable _)
open Classical in
theorem okZ_iff {m w n : Nat} {cs : List Value} : okZ m w n cs = true ↔ OKZ m w n cs := by unfold okZ; exact @decide_eq_true_iff _ (Classical.propDecidable _)
def zS : List Value := [.string ⟨#[]⟩]
theorem spS0 (r : List Value) (c : Nat) (Q : Value → Option Obj → Prop) : ffn Tryz.prog SNz [] 3000 [] Tryz.f10 [.slice (some ⟨0, 0, none⟩) 0 c] ⟨1, 1, [(0, .cells ⟨r⟩ 9 (0, 0))]⟩ (fun v h => Q v (h.get 0)) =
    Q (.tuple ⟨[]⟩) (some (.cells ⟨r⟩ 9 (0, 0))) := by kernel_rfl
theorem spS1 (a0 : Value) (r : List Value) (c : Nat) (Q : Value → Option Obj → Prop) : ffn Tryz.prog SNz [] 3000 [] Tryz.f10 [.slice (some ⟨0, 0, none⟩) 1 c] ⟨1, 1, [(0, .cells ⟨a0 :: r⟩ 9 (0, 0))]⟩ (fun v h => Q v (h.get 0)) =
    Q (.tuple ⟨[]⟩) (some (.cells ⟨.string ⟨#[]⟩ :: r⟩ 9 (0, 0))) := by kernel_rfl
theorem spS2 (a0 a1 : Value) (r : List Value) (c : Nat) (Q : Value → Option Obj → Prop) : ffn Tryz.prog SNz [] 3000 [] Tryz.f10 [.slice (some ⟨0, 0, none⟩) 2 c] ⟨1, 1, [(0, .cells ⟨a0 :: a1 :: r⟩ 9 (0, 0))]⟩ (fun v h => Q v (h.get 0)) =
    Q (.tuple ⟨[]⟩) (some (.cells ⟨.string ⟨#[]⟩ :: .string ⟨#[]⟩ :: r⟩ 9 (0, 0))) := by kernel_rfl
theorem spS3 (a0 a1 a2 : Value) (r : List Value) (c : Nat) (Q : Value → Option Obj → Prop) : ffn Tryz.prog SNz [] 3000 [] Tryz.f10 [.slice (some ⟨0, 0, none⟩) 3 c] ⟨1, 1, [(0, .cells ⟨a0 :: a1 :: a2 :: r⟩ 9 (0, 0))]⟩ (fun v h => Q v (h.get 0)) =
    Q (.tuple ⟨[]⟩) (some (.cells ⟨.string ⟨#[]⟩ :: .string ⟨#[]⟩ :: .string ⟨#[]⟩ :: r⟩ 9 (0, 0))) := by kernel_rfl
theorem spS4 (a0 a1 a2 a3 : Value) (r : List Value) (c : Nat) (Q : Value → Option Obj → Prop) : ffn Tryz.prog SNz [] 3000 [] Tryz.f10 [.slice (some ⟨0, 0, none⟩) 4 c] ⟨1, 1, [(0, .cells ⟨a0 :: a1 :: a2 :: a3 :: r⟩ 9 (0, 0))]⟩ (fun v h => Q v (h.get 0)) =
    Q (.tuple ⟨[]⟩) (some (.cells ⟨.string ⟨#[]⟩ :: .string ⟨#[]⟩ :: .string ⟨#[]⟩ :: .string ⟨#[]⟩ :: r⟩ 9 (0, 0))) := by kernel_rfl
theorem spS5 (a0 a1 a2 a3 a4 : Value) (r : List Value) (c : Nat) (Q : Value → Option Obj → Prop) : ffn Tryz.prog SNz [] 3000 [] Tryz.f10 [.slice (some ⟨0, 0, none⟩) 5 c] ⟨1, 1, [(0, .cells ⟨a0 :: a1 :: a2 :: a3 :: a4 :: r⟩ 9 (0, 0))]⟩ (fun v h => Q v (h.get 0)) =
    Q (.tuple ⟨[]⟩) (some (.cells ⟨.string ⟨#[]⟩ :: .string ⟨#[]⟩ :: .string ⟨#[]⟩ :: .string ⟨#[]⟩ :: .string ⟨#[]⟩ :: r⟩ 9 (0, 0))) := by kernel_rfl
theorem spS6 (a0 a1 a2 a3 a4 a5 : Value) (r : List Value) (c : Nat) (Q : Value → Option Obj → Prop) : ffn Tryz.prog SNz [] 3000 [] Tryz.f10 [.slice (some ⟨0, 0, none⟩) 6 c] ⟨1, 1, [(0, .cells ⟨a0 :: a1 :: a2 :: a3 :: a4 :: a5 :: r⟩ 9 (0, 0))]⟩ (fun v h => Q v (h.get 0)) =
    Q (.tuple ⟨[]⟩) (some (.cells ⟨.string ⟨#[]⟩ :: .string ⟨#[]⟩ :: .string ⟨#[]⟩ :: .string ⟨#[]⟩ :: .string ⟨#[]⟩ :: .string ⟨#[]⟩ :: r⟩ 9 (0, 0))) := by kernel_rfl
theorem spS7 (a0 a1 a2 a3 a4 a5 a6 : Value) (r : List Value) (c : Nat) (Q : Value → Option Obj → Prop) : ffn Tryz.prog SNz [] 3000 [] Tryz.f10 [.slice (some ⟨0, 0, none⟩) 7 c] ⟨1, 1, [(0, .cells ⟨a0 :: a1 :: a2 :: a3 :: a4 :: a5 :: a6 :: r⟩ 9 (0, 0))]⟩ (fun v h => Q v (h.get 0)) =
    Q (.tuple ⟨[]⟩) (some (.cells ⟨.string ⟨#[]⟩ :: .string ⟨#[]⟩ :: .string ⟨#[]⟩ :: .string ⟨#[]⟩ :: .string ⟨#[]⟩ :: .string ⟨#[]⟩ :: .string ⟨#[]⟩ :: r⟩ 9 (0, 0))) := by kernel_rfl
theorem spS8 (a0 a1 a2 a3 a4 a5 a6 a7 : Value) (r : List Value) (c : Nat) (Q : Value → Option Obj → Prop) : ffn Tryz.prog SNz [] 3000 [] Tryz.f10 [.slice (some ⟨0, 0, none⟩) 8 c] ⟨1, 1, [(0, .cells ⟨a0 :: a1 :: a2 :: a3 :: a4 :: a5 :: a6 :: a7 :: r⟩ 9 (0, 0))]⟩ (fun v h => Q v (h.get 0)) =
    Q (.tuple ⟨[]⟩) (some (.cells ⟨.string ⟨#[]⟩ :: .string ⟨#[]⟩ :: .string ⟨#[]⟩ :: .string ⟨#[]⟩ :: .string ⟨#[]⟩ :: .string ⟨#[]⟩ :: .string ⟨#[]⟩ :: .string ⟨#[]⟩ :: r⟩ 9 (0, 0))) := by kernel_rfl
theorem spS9 (a0 a1 a2 a3 a4 a5 a6 a7 a8 : Value) (r : List Value) (c : Nat) (Q : Value → Option Obj → Prop) : ffn Tryz.prog SNz [] 3000 [] Tryz.f10 [.slice (some ⟨0, 0, none⟩) 9 c] ⟨1, 1, [(0, .cells ⟨a0 :: a1 :: a2 :: a3 :: a4 :: a5 :: a6 :: a7 :: a8 :: r⟩ 9 (0, 0))]⟩ (fun v h => Q v (h.get 0)) =
    Q (.tuple ⟨[]⟩) (some (.cells ⟨.string ⟨#[]⟩ :: .string ⟨#[]⟩ :: .string ⟨#[]⟩ :: .string ⟨#[]⟩ :: .string ⟨#[]⟩ :: .string ⟨#[]⟩ :: .string ⟨#[]⟩ :: .string ⟨#[]⟩ :: .string ⟨#[]⟩ :: r⟩ 9 (0, 0))) := by kernel_rfl
theorem someSPS : Tryz.f10.body.isSome = true := by kernel_rfl
theorem spS_fn (n : Nat) (cs : List Value) (c : Nat) (hn : n ≤ 9) (hl : n * 1 ≤ cs.length) : FnOK 1 Tryz.prog 10 ⟨[.slice (some ⟨0, 0, none⟩) n c]⟩ ⟨1, 1, [(0, .cells ⟨cs⟩ 9 (0, 0))]⟩ (fun v g => v = .tuple ⟨[]⟩ ∧ g.get 0 = some (.cells ⟨zed zS n cs⟩ 9 (0, 0))) := by
  match n, hn, hl with
  | 0, _, hl =>
    exact FnOK.ftree (p := 1) SNz_ok mixed Tryz.func10 someSPS (spS0 cs c (fun v o => v = .tuple ⟨[]⟩ ∧ o = some (.cells ⟨zed zS 0 (cs)⟩ 9 (0, 0)))) ⟨rfl, rfl⟩
  | 1, _, hl =>
    have g0 : 1 ≤ cs.length := hl
    clear hl
    obtain ⟨a0, r1, rfl, g1⟩ := un1 g0
    exact FnOK.ftree (p := 1) SNz_ok mixed Tryz.func10 someSPS (spS1 a0 r1 c (fun v o => v = .tuple ⟨[]⟩ ∧ o = some (.cells ⟨zed zS 1 (a0 :: r1)⟩ 9 (0, 0)))) ⟨rfl, rfl⟩
  | 2, _, hl =>
    have g0 : 2 ≤ cs.length := hl
    clear hl
    obtain ⟨a0, r1, rfl, g1⟩ := un1 g0
    obtain ⟨a1, r2, rfl, g2⟩ := un1 g1
    exact FnOK.ftree (p := 1) SNz_ok mixed Tryz.func10 someSPS (spS2 a0 a1 r2 c (fun v o => v = .tuple ⟨[]⟩ ∧ o = some (.cells ⟨zed zS 2 (a0 :: a1 :: r2)⟩ 9 (0, 0)))) ⟨rfl, rfl⟩
  | 3, _, hl =>
    have g0 : 3 ≤ cs.length := hl
    clear hl
    obtain ⟨a0, r1, rfl, g1⟩ := un1 g0
    obtain ⟨a1, r2, rfl, g2⟩ := un1 g1
    obtain ⟨a2, r3, rfl, g3⟩ := un1 g2
    exact FnOK.ftree (p := 1) SNz_ok mixed Tryz.func10 someSPS (spS3 a0 a1 a2 r3 c (fun v o => v = .tuple ⟨[]⟩ ∧ o = some (.cells ⟨zed zS 3 (a0 :: a1 :: a2 :: r3)⟩ 9 (0, 0)))) ⟨rfl, rfl⟩
  | 4, _, hl =>
    have g0 : 4 ≤ cs.length := hl
    clear hl
    obtain ⟨a0, r1, rfl, g1⟩ := un1 g0
    obtain ⟨a1, r2, rfl, g2⟩ := un1 g1
    obtain ⟨a2, r3, rfl, g3⟩ := un1 g2
    obtain ⟨a3, r4, rfl, g4⟩ := un1 g3
    exact FnOK.ftree (p := 1) SNz_ok mixed Tryz.func10 someSPS (spS4 a0 a1 a2 a3 r4 c (fun v o => v = .tuple ⟨[]⟩ ∧ o = some (.cells ⟨zed zS 4 (a0 :: a1 :: a2 :: a3 :: r4)⟩ 9 (0, 0)))) ⟨rfl, rfl⟩
  | 5, _, hl =>
    have g0 : 5 ≤ cs.length := hl
    clear hl
    obtain ⟨a0, r1, rfl, g1⟩ := un1 g0
    obtain ⟨a1, r2, rfl, g2⟩ := un1 g1
    obtain ⟨a2, r3, rfl, g3⟩ := un1 g2
    obtain ⟨a3, r4, rfl, g4⟩ := un1 g3
    obtain ⟨a4, r5, rfl, g5⟩ := un1 g4
    exact FnOK.ftree (p := 1) SNz_ok mixed Tryz.func10 someSPS (spS5 a0 a1 a2 a3 a4 r5 c (fun v o => v = .tuple ⟨[]⟩ ∧ o = some (.cells ⟨zed zS 5 (a0 :: a1 :: a2 :: a3 :: a4 :: r5)⟩ 9 (0, 0)))) ⟨rfl, rfl⟩
  | 6, _, hl =>
    have g0 : 6 ≤ cs.length := hl
    clear hl
    obtain ⟨a0, r1, rfl, g1⟩ := un1 g0
    obtain ⟨a1, r2, rfl, g2⟩ := un1 g1
    obtain ⟨a2, r3, rfl, g3⟩ := un1 g2
    obtain ⟨a3, r4, rfl, g4⟩ := un1 g3
    obtain ⟨a4, r5, rfl, g5⟩ := un1 g4
    obtain ⟨a5, r6, rfl, g6⟩ := un1 g5
    exact FnOK.ftree (p := 1) SNz_ok mixed Tryz.func10 someSPS (spS6 a0 a1 a2 a3 a4 a5 r6 c (fun v o => v = .tuple ⟨[]⟩ ∧ o = some (.cells ⟨zed zS 6 (a0 :: a1 :: a2 :: a3 :: a4 :: a5 :: r6)⟩ 9 (0, 0)))) ⟨rfl, rfl⟩
  | 7, _, hl =>
    have g0 : 7 ≤ cs.length := hl
    clear hl
    obtain ⟨a0, r1, rfl, g1⟩ := un1 g0
    obtain ⟨a1, r2, rfl, g2⟩ := un1 g1
    obtain ⟨a2, r3, rfl, g3⟩ := un1 g2
    obtain ⟨a3, r4, rfl, g4⟩ := un1 g3
    obtain ⟨a4, r5, rfl, g5⟩ := un1 g4
    obtain ⟨a5, r6, rfl, g6⟩ := un1 g5
    obtain ⟨a6, r7, rfl, g7⟩ := un1 g6
    exact FnOK.ftree (p := 1) SNz_ok mixed Tryz.func10 someSPS (spS7 a0 a1 a2 a3 a4 a5 a6 r7 c (fun v o => v = .tuple ⟨[]⟩ ∧ o = some (.cells ⟨zed zS 7 (a0 :: a1 :: a2 :: a3 :: a4 :: a5 :: a6 :: r7)⟩ 9 (0, 0)))) ⟨rfl, rfl⟩
  | 8, _, hl =>
    have g0 : 8 ≤ cs.length := hl
    clear hl
    obtain ⟨a0, r1, rfl, g1⟩ := un1 g0
    obtain ⟨a1, r2, rfl, g2⟩ := un1 g1
    obtain ⟨a2, r3, rfl, g3⟩ := un1 g2
    obtain ⟨a3, r4, rfl, g4⟩ := un1 g3
    obtain ⟨a4, r5, rfl, g5⟩ := un1 g4
    obtain ⟨a5, r6, rfl, g6⟩ := un1 g5
    obtain ⟨a6, r7, rfl, g7⟩ := un1 g6
    obtain ⟨a7, r8, rfl, g8⟩ := un1 g7
    exact FnOK.ftree (p := 1) SNz_ok mixed Tryz.func10 someSPS (spS8 a0 a1 a2 a3 a4 a5 a6 a7 r8 c (fun v o => v = .tuple ⟨[]⟩ ∧ o = some (.cells ⟨zed zS 8 (a0 :: a1 :: a2 :: a3 :: a4 :: a5 :: a6 :: a7 :: r8)⟩ 9 (0, 0)))) ⟨rfl, rfl⟩
  | 9, _, hl =>
    have g0 : 9 ≤ cs.length := hl
    clear hl
    obtain ⟨a0, r1, rfl, g1⟩ := un1 g0
    obtain ⟨a1, r2, rfl, g2⟩ := un1 g1
    obtain ⟨a2, r3, rfl, g3⟩ := un1 g2
    obtain ⟨a3, r4, rfl, g4⟩ := un1 g3
    obtain ⟨a4, r5, rfl, g5⟩ := un1 g4
    obtain ⟨a5, r6, rfl, g6⟩ := un1 g5
    obtain ⟨a6, r7, rfl, g7⟩ := un1 g6
    obtain ⟨a7, r8, rfl, g8⟩ := un1 g7
    obtain ⟨a8, r9, rfl, g9⟩ := un1 g8
    exact FnOK.ftree (p := 1) SNz_ok mixed Tryz.func10 someSPS (spS9 a0 a1 a2 a3 a4 a5 a6 a7 a8 r9 c (fun v o => v = .tuple ⟨[]⟩ ∧ o = some (.cells ⟨zed zS 9 (a0 :: a1 :: a2 :: a3 :: a4 :: a5 :: a6 :: a7 :: a8 :: r9)⟩ 9 (0, 0)))) ⟨rfl, rfl⟩
  | n + 10, h, _ => exact absurd h (by omega)
noncomputable def spZS (f : FuncId) (args : Array Value) (h : AH) : Option (Bool × Value × AH) :=
  cond (Nat.beq f 10) (match args with
    | ⟨[.slice (some ⟨b, 0, none⟩) n _]⟩ => match h.get b with
      | some (.cells ⟨cs⟩ t (0, 0)) => some (Nat.beq t 9 && Nat.blt b h.next && okZ 9 1 n cs, .tuple ⟨[]⟩, h.set b (.cells ⟨zed zS n cs⟩ 9 (0, 0)))
      | _ => none
    | _ => none) none
theorem spZS_ok : SpOK spZS := by
  intro f args h v h' hs
  unfold spZS at hs
  obtain ⟨hf, hs2⟩ := cond_some hs
  clear hs
  have := Nat.eq_of_beq_eq_true hf
  subst this
  split at hs2
  · split at hs2
    · rename_i b n c _ cs t hg
      injection hs2 with hs
      injection hs with hb hs
      injection hs with hv hh
      subst hv hh
      simp only [Bool.and_eq_true] at hb
      obtain ⟨⟨b0, b1⟩, b2⟩ := hb
      have b0 := Nat.eq_of_beq_eq_true b0
      subst b0
      obtain ⟨c1, c2, c3⟩ := okZ_iff.1 b2
      exact ⟨upd0 (rest := []) (spS_fn n cs c c1 c2) rfl c3 (zed_p1 (by decide) c3) hg b1, Nat.le_refl _⟩
    · cases hs2
  · cases hs2
def zG : List Value := [.string ⟨#[]⟩, .string ⟨#[]⟩, .int .i64 0, .int .i64 0, .int .i64 0]
theorem spG0 (r : List Value) (c : Nat) (Q : Value → Option Obj → Prop) : ffn Tryz.prog SNz [] 3000 [] Tryz.f13 [.slice (some ⟨0, 0, none⟩) 0 c] ⟨1, 1, [(0, .cells ⟨r⟩ 44 (0, 0))]⟩ (fun v h => Q v (h.get 0)) =
    Q (.tuple ⟨[]⟩) (some (.cells ⟨r⟩ 44 (0, 0))) := by kernel_rfl
theorem spG1 (a0 a1 a2 a3 a4 : Value) (r : List Value) (c : Nat) (Q : Value → Option Obj → Prop) : ffn Tryz.prog SNz [] 3000 [] Tryz.f13 [.slice (some ⟨0, 0, none⟩) 1 c] ⟨1, 1, [(0, .cells ⟨a0 :: a1 :: a2 :: a3 :: a4 :: r⟩ 44 (0, 0))]⟩ (fun v h => Q v (h.get 0)) =
    Q (.tuple ⟨[]⟩) (some (.cells ⟨.string ⟨#[]⟩ :: .string ⟨#[]⟩ :: .int .i64 0 :: .int .i64 0 :: .int .i64 0 :: r⟩ 44 (0, 0))) := by kernel_rfl
theorem spG2 (a0 a1 a2 a3 a4 a5 a6 a7 a8 a9 : Value) (r : List Value) (c : Nat) (Q : Value → Option Obj → Prop) : ffn Tryz.prog SNz [] 3000 [] Tryz.f13 [.slice (some ⟨0, 0, none⟩) 2 c] ⟨1, 1, [(0, .cells ⟨a0 :: a1 :: a2 :: a3 :: a4 :: a5 :: a6 :: a7 :: a8 :: a9 :: r⟩ 44 (0, 0))]⟩ (fun v h => Q v (h.get 0)) =
    Q (.tuple ⟨[]⟩) (some (.cells ⟨.string ⟨#[]⟩ :: .string ⟨#[]⟩ :: .int .i64 0 :: .int .i64 0 :: .int .i64 0 :: .string ⟨#[]⟩ :: .string ⟨#[]⟩ :: .int .i64 0 :: .int .i64 0 :: .int .i64 0 :: r⟩ 44 (0, 0))) := by kernel_rfl
theorem spG3 (a0 a1 a2 a3 a4 a5 a6 a7 a8 a9 a10 a11 a12 a13 a14 : Value) (r : List Value) (c : Nat) (Q : Value → Option Obj → Prop) : ffn Tryz.prog SNz [] 3000 [] Tryz.f13 [.slice (some ⟨0, 0, none⟩) 3 c] ⟨1, 1, [(0, .cells ⟨a0 :: a1 :: a2 :: a3 :: a4 :: a5 :: a6 :: a7 :: a8 :: a9 :: a10 :: a11 :: a12 :: a13 :: a14 :: r⟩ 44 (0, 0))]⟩ (fun v h => Q v (h.get 0)) =
    Q (.tuple ⟨[]⟩) (some (.cells ⟨.string ⟨#[]⟩ :: .string ⟨#[]⟩ :: .int .i64 0 :: .int .i64 0 :: .int .i64 0 :: .string ⟨#[]⟩ :: .string ⟨#[]⟩ :: .int .i64 0 :: .int .i64 0 :: .int .i64 0 :: .string ⟨#[]⟩ :: .string ⟨#[]⟩ :: .int .i64 0 :: .int .i64 0 :: .int .i64 0 :: r⟩ 44 (0, 0))) := by kernel_rfl
theorem spG4 (a0 a1 a2 a3 a4 a5 a6 a7 a8 a9 a10 a11 a12 a13 a14 a15 a16 a17 a18 a19 : Value) (r : List Value) (c : Nat) (Q : Value → Option Obj → Prop) : ffn Tryz.prog SNz [] 3000 [] Tryz.f13 [.slice (some ⟨0, 0, none⟩) 4 c] ⟨1, 1, [(0, .cells ⟨a0 :: a1 :: a2 :: a3 :: a4 :: a5 :: a6 :: a7 :: a8 :: a9 :: a10 :: a11 :: a12 :: a13 :: a14 :: a15 :: a16 :: a17 :: a18 :: a19 :: r⟩ 44 (0, 0))]⟩ (fun v h => Q v (h.get 0)) =
    Q (.tuple ⟨[]⟩) (some (.cells ⟨.string ⟨#[]⟩ :: .string ⟨#[]⟩ :: .int .i64 0 :: .int .i64 0 :: .int .i64 0 :: .string ⟨#[]⟩ :: .string ⟨#[]⟩ :: .int .i64 0 :: .int .i64 0 :: .int .i64 0 :: .string ⟨#[]⟩ :: .string ⟨#[]⟩ :: .int .i64 0 :: .int .i64 0 :: .int .i64 0 :: .string ⟨#[]⟩ :: .string ⟨#[]⟩ :: .int .i64 0 :: .int .i64 0 :: .int .i64 0 :: r⟩ 44 (0, 0))) := by kernel_rfl
theorem someSPG : Tryz.f13.body.isSome = true := by kernel_rfl
theorem spG_fn (n : Nat) (cs : List Value) (c : Nat) (hn : n ≤ 4) (hl : n * 5 ≤ cs.length) : FnOK 1 Tryz.prog 13 ⟨[.slice (some ⟨0, 0, none⟩) n c]⟩ ⟨1, 1, [(0, .cells ⟨cs⟩ 44 (0, 0))]⟩ (fun v g => v = .tuple ⟨[]⟩ ∧ g.get 0 = some (.cells ⟨zed zG n cs⟩ 44 (0, 0))) := by
  match n, hn, hl with
  | 0, _, hl =>
    exact FnOK.ftree (p := 1) SNz_ok mixed Tryz.func13 someSPG (spG0 cs c (fun v o => v = .tuple ⟨[]⟩ ∧ o = some (.cells ⟨zed zG 0 (cs)⟩ 44 (0, 0)))) ⟨rfl, rfl⟩
  | 1, _, hl =>
    have g0 : 5 ≤ cs.length := hl
    clear hl
    obtain ⟨a0, r1, rfl, g1⟩ := un1 g0
    obtain ⟨a1, r2, rfl, g2⟩ := un1 g1
    obtain ⟨a2, r3, rfl, g3⟩ := un1 g2
    obtain ⟨a3, r4, rfl, g4⟩ := un1 g3
    obtain ⟨a4, r5, rfl, g5⟩ := un1 g4
    exact FnOK.ftree (p := 1) SNz_ok mixed Tryz.func13 someSPG (spG1 a0 a1 a2 a3 a4 r5 c (fun v o => v = .tuple ⟨[]⟩ ∧ o = some (.cells ⟨zed zG 1 (a0 :: a1 :: a2 :: a3 :: a4 :: r5)⟩ 44 (0, 0)))) ⟨rfl, rfl⟩
  | 2, _, hl =>
    have g0 : 10 ≤ cs.length := hl
    clear hl
    obtain ⟨a0, r1, rfl, g1⟩ := un1 g0
    obtain ⟨a1, r2, rfl, g2⟩ := un1 g1
    obtain ⟨a2, r3, rfl, g3⟩ := un1 g2
    obtain ⟨a3, r4, rfl, g4⟩ := un1 g3
    obtain ⟨a4, r5, rfl, g5⟩ := un1 g4
    obtain ⟨a5, r6, rfl, g6⟩ := un1 g5
    obtain ⟨a6, r7, rfl, g7⟩ := un1 g6
    obtain ⟨a7, r8, rfl, g8⟩ := un1 g7
    obtain ⟨a8, r9, rfl, g9⟩ := un1 g8
    obtain ⟨a9, r10, rfl, g10⟩ := un1 g9
    exact FnOK.ftree (p := 1) SNz_ok mixed Tryz.func13 someSPG (spG2 a0 a1 a2 a3 a4 a5 a6 a7 a8 a9 r10 c (fun v o => v = .tuple ⟨[]⟩ ∧ o = some (.cells ⟨zed zG 2 (a0 :: a1 :: a2 :: a3 :: a4 :: a5 :: a6 :: a7 :: a8 :: a9 :: r10)⟩ 44 (0, 0)))) ⟨rfl, rfl⟩
  | 3, _, hl =>
    have g0 : 15 ≤ cs.length := hl
    clear hl
    obtain ⟨a0, r1, rfl, g1⟩ := un1 g0
    obtain ⟨a1, r2, rfl, g2⟩ := un1 g1
    obtain ⟨a2, r3, rfl, g3⟩ := un1 g2
    obtain ⟨a3, r4, rfl, g4⟩ := un1 g3
    obtain ⟨a4, r5, rfl, g5⟩ := un1 g4
    obtain ⟨a5, r6, rfl, g6⟩ := un1 g5
    obtain ⟨a6, r7, rfl, g7⟩ := un1 g6
    obtain ⟨a7, r8, rfl, g8⟩ := un1 g7
    obtain ⟨a8, r9, rfl, g9⟩ := un1 g8
    obtain ⟨a9, r10, rfl, g10⟩ := un1 g9
    obtain ⟨a10, r11, rfl, g11⟩ := un1 g10
    obtain ⟨a11, r12, rfl, g12⟩ := un1 g11
    obtain ⟨a12, r13, rfl, g13⟩ := un1 g12
    obtain ⟨a13, r14, rfl, g14⟩ := un1 g13
    obtain ⟨a14, r15, rfl, g15⟩ := un1 g14
    exact FnOK.ftree (p := 1) SNz_ok mixed Tryz.func13 someSPG (spG3 a0 a1 a2 a3 a4 a5 a6 a7 a8 a9 a10 a11 a12 a13 a14 r15 c (fun v o => v = .tuple ⟨[]⟩ ∧ o = some (.cells ⟨zed zG 3 (a0 :: a1 :: a2 :: a3 :: a4 :: a5 :: a6 :: a7 :: a8 :: a9 :: a10 :: a11 :: a12 :: a13 :: a14 :: r15)⟩ 44 (0, 0)))) ⟨rfl, rfl⟩
  | 4, _, hl =>
    have g0 : 20 ≤ cs.length := hl
    clear hl
    obtain ⟨a0, r1, rfl, g1⟩ := un1 g0
    obtain ⟨a1, r2, rfl, g2⟩ := un1 g1
    obtain ⟨a2, r3, rfl, g3⟩ := un1 g2
    obtain ⟨a3, r4, rfl, g4⟩ := un1 g3
    obtain ⟨a4, r5, rfl, g5⟩ := un1 g4
    obtain ⟨a5, r6, rfl, g6⟩ := un1 g5
    obtain ⟨a6, r7, rfl, g7⟩ := un1 g6
    obtain ⟨a7, r8, rfl, g8⟩ := un1 g7
    obtain ⟨a8, r9, rfl, g9⟩ := un1 g8
    obtain ⟨a9, r10, rfl, g10⟩ := un1 g9
    obtain ⟨a10, r11, rfl, g11⟩ := un1 g10
    obtain ⟨a11, r12, rfl, g12⟩ := un1 g11
    obtain ⟨a12, r13, rfl, g13⟩ := un1 g12
    obtain ⟨a13, r14, rfl, g14⟩ := un1 g13
    obtain ⟨a14, r15, rfl, g15⟩ := un1 g14
    obtain ⟨a15, r16, rfl, g16⟩ := un1 g15
    obtain ⟨a16, r17, rfl, g17⟩ := un1 g16
    obtain ⟨a17, r18, rfl, g18⟩ := un1 g17
    obtain ⟨a18, r19, rfl, g19⟩ := un1 g18
    obtain ⟨a19, r20, rfl, g20⟩ := un1 g19
    exact FnOK.ftree (p := 1) SNz_ok mixed Tryz.func13 someSPG (spG4 a0 a1 a2 a3 a4 a5 a6 a7 a8 a9 a10 a11 a12 a13 a14 a15 a16 a17 a18 a19 r20 c (fun v o => v = .tuple ⟨[]⟩ ∧ o = some (.cells ⟨zed zG 4 (a0 :: a1 :: a2 :: a3 :: a4 :: a5 :: a6 :: a7 :: a8 :: a9 :: a10 :: a11 :: a12 :: a13 :: a14 :: a15 :: a16 :: a17 :: a18 :: a19 :: r20)⟩ 44 (0, 0)))) ⟨rfl, rfl⟩
  | n + 5, h, _ => exact absurd h (by omega)
noncomputable def spZG (f : FuncId) (args : Array Value) (h : AH) : Option (Bool × Value × AH) :=
  cond (Nat.beq f 13) (match args with
    | ⟨[.slice (some ⟨b, 0, none⟩) n _]⟩ => match h.get b with
      | some (.cells ⟨cs⟩ t (0, 0)) => some (Nat.beq t 44 && Nat.blt b h.next && okZ 4 5 n cs, .tuple ⟨[]⟩, h.set b (.cells ⟨zed zG n cs⟩ 44 (0, 0)))
      | _ => none
    | _ => none) none
theorem spZG_ok : SpOK spZG := by
  intro f args h v h' hs
  unfold spZG at hs
  obtain ⟨hf, hs2⟩ := cond_some hs
  clear hs
  have := Nat.eq_of_beq_eq_true hf
  subst this
  split at hs2
  · split at hs2
    · rename_i b n c _ cs t hg
      injection hs2 with hs
      injection hs with hb hs
      injection hs with hv hh
      subst hv hh
      simp only [Bool.and_eq_true] at hb
      obtain ⟨⟨b0, b1⟩, b2⟩ := hb
      have b0 := Nat.eq_of_beq_eq_true b0
      subst b0
      obtain ⟨c1, c2, c3⟩ := okZ_iff.1 b2
      exact ⟨upd0 (rest := []) (spG_fn n cs c c1 c2) rfl c3 (zed_p1 (by decide) c3) hg b1, Nat.le_refl _⟩
    · cases hs2
  · cases hs2
def zV : List Value := [.string ⟨#[]⟩, .int .i64 0, .int .i64 0]
theorem spV0 (r : List Value) (c : Nat) (Q : Value → Option Obj → Prop) : ffn Tryz.prog SNz [] 3000 [] Tryz.f16 [.slice (some ⟨0, 0, none⟩) 0 c] ⟨1, 1, [(0, .cells ⟨r⟩ 53 (0, 0))]⟩ (fun v h => Q v (h.get 0)) =
    Q (.tuple ⟨[]⟩) (some (.cells ⟨r⟩ 53 (0, 0))) := by kernel_rfl
theorem spV1 (a0 a1 a2 : Value) (r : List Value) (c : Nat) (Q : Value → Option Obj → Prop) : ffn Tryz.prog SNz [] 3000 [] Tryz.f16 [.slice (some ⟨0, 0, none⟩) 1 c] ⟨1, 1, [(0, .cells ⟨a0 :: a1 :: a2 :: r⟩ 53 (0, 0))]⟩ (fun v h => Q v (h.get 0)) =
    Q (.tuple ⟨[]⟩) (some (.cells ⟨.string ⟨#[]⟩ :: .int .i64 0 :: .int .i64 0 :: r⟩ 53 (0, 0))) := by kernel_rfl
theorem spV2 (a0 a1 a2 a3 a4 a5 : Value) (r : List Value) (c : Nat) (Q : Value → Option Obj → Prop) : ffn Tryz.prog SNz [] 3000 [] Tryz.f16 [.slice (some ⟨0, 0, none⟩) 2 c] ⟨1, 1, [(0, .cells ⟨a0 :: a1 :: a2 :: a3 :: a4 :: a5 :: r⟩ 53 (0, 0))]⟩ (fun v h => Q v (h.get 0)) =
    Q (.tuple ⟨[]⟩) (some (.cells ⟨.string ⟨#[]⟩ :: .int .i64 0 :: .int .i64 0 :: .string ⟨#[]⟩ :: .int .i64 0 :: .int .i64 0 :: r⟩ 53 (0, 0))) := by kernel_rfl
theorem spV3 (a0 a1 a2 a3 a4 a5 a6 a7 a8 : Value) (r : List Value) (c : Nat) (Q : Value → Option Obj → Prop) : ffn Tryz.prog SNz [] 3000 [] Tryz.f16 [.slice (some ⟨0, 0, none⟩) 3 c] ⟨1, 1, [(0, .cells ⟨a0 :: a1 :: a2 :: a3 :: a4 :: a5 :: a6 :: a7 :: a8 :: r⟩ 53 (0, 0))]⟩ (fun v h => Q v (h.get 0)) =
    Q (.tuple ⟨[]⟩) (some (.cells ⟨.string ⟨#[]⟩ :: .int .i64 0 :: .int .i64 0 :: .string ⟨#[]⟩ :: .int .i64 0 :: .int .i64 0 :: .string ⟨#[]⟩ :: .int .i64 0 :: .int .i64 0 :: r⟩ 53 (0, 0))) := by kernel_rfl
theorem spV4 (a0 a1 a2 a3 a4 a5 a6 a7 a8 a9 a10 a11 : Value) (r : List Value) (c : Nat) (Q : Value → Option Obj → Prop) : ffn Tryz.prog SNz [] 3000 [] Tryz.f16 [.slice (some ⟨0, 0, none⟩) 4 c] ⟨1, 1, [(0, .cells ⟨a0 :: a1 :: a2 :: a3 :: a4 :: a5 :: a6 :: a7 :: a8 :: a9 :: a10 :: a11 :: r⟩ 53 (0, 0))]⟩ (fun v h => Q v (h.get 0)) =
    Q (.tuple ⟨[]⟩) (some (.cells ⟨.string ⟨#[]⟩ :: .int .i64 0 :: .int .i64 0 :: .string ⟨#[]⟩ :: .int .i64 0 :: .int .i64 0 :: .string ⟨#[]⟩ :: .int .i64 0 :: .int .i64 0 :: .string ⟨#[]⟩ :: .int .i64 0 :: .int .i64 0 :: r⟩ 53 (0, 0))) := by kernel_rfl
theorem spV5 (a0 a1 a2 a3 a4 a5 a6 a7 a8 a9 a10 a11 a12 a13 a14 : Value) (r : List Value) (c : Nat) (Q : Value → Option Obj → Prop) : ffn Tryz.prog SNz [] 3000 [] Tryz.f16 [.slice (some ⟨0, 0, none⟩) 5 c] ⟨1, 1, [(0, .cells ⟨a0 :: a1 :: a2 :: a3 :: a4 :: a5 :: a6 :: a7 :: a8 :: a9 :: a10 :: a11 :: a12 :: a13 :: a14 :: r⟩ 53 (0, 0))]⟩ (fun v h => Q v (h.get 0)) =
    Q (.tuple ⟨[]⟩) (some (.cells ⟨.string ⟨#[]⟩ :: .int .i64 0 :: .int .i64 0 :: .string ⟨#[]⟩ :: .int .i64 0 :: .int .i64 0 :: .string ⟨#[]⟩ :: .int .i64 0 :: .int .i64 0 :: .string ⟨#[]⟩ :: .int .i64 0 :: .int .i64 0 :: .string ⟨#[]⟩ :: .int .i64 0 :: .int .i64 0 :: r⟩ 53 (0, 0))) := by kernel_rfl
theorem someSPV : Tryz.f16.body.isSome = true := by kernel_rfl
theorem spV_fn (n : Nat) (cs : List Value) (c : Nat) (hn : n ≤ 5) (hl : n * 3 ≤ cs.length) : FnOK 1 Tryz.prog 16 ⟨[.slice (some ⟨0, 0, none⟩) n c]⟩ ⟨1, 1, [(0, .cells ⟨cs⟩ 53 (0, 0))]⟩ (fun v g => v = .tuple ⟨[]⟩ ∧ g.get 0 = some (.cells ⟨zed zV n cs⟩ 53 (0, 0))) := by
  match n, hn, hl with
  | 0, _, hl =>
    exact FnOK.ftree (p := 1) SNz_ok mixed Tryz.func16 someSPV (spV0 cs c (fun v o => v = .tuple ⟨[]⟩ ∧ o = some (.cells ⟨zed zV 0 (cs)⟩ 53 (0, 0)))) ⟨rfl, rfl⟩
  | 1, _, hl =>
    have g0 : 3 ≤ cs.length := hl
    clear hl
    obtain ⟨a0, r1, rfl, g1⟩ := un1 g0
    obtain ⟨a1, r2, rfl, g2⟩ := un1 g1
    obtain ⟨a2, r3, rfl, g3⟩ := un1 g2
    exact FnOK.ftree (p := 1) SNz_ok mixed Tryz.func16 someSPV (spV1 a0 a1 a2 r3 c (fun v o => v = .tuple ⟨[]⟩ ∧ o = some (.cells ⟨zed zV 1 (a0 :: a1 :: a2 :: r3)⟩ 53 (0, 0)))) ⟨rfl, rfl⟩
  | 2, _, hl =>
    have g0 : 6 ≤ cs.length := hl
    clear hl
    obtain ⟨a0, r1, rfl, g1⟩ := un1 g0
    obtain ⟨a1, r2, rfl, g2⟩ := un1 g1
    obtain ⟨a2, r3, rfl, g3⟩ := un1 g2
    obtain ⟨a3, r4, rfl, g4⟩ := un1 g3
    obtain ⟨a4, r5, rfl, g5⟩ := un1 g4
    obtain ⟨a5, r6, rfl, g6⟩ := un1 g5
    exact FnOK.ftree (p := 1) SNz_ok mixed Tryz.func16 someSPV (spV2 a0 a1 a2 a3 a4 a5 r6 c (fun v o => v = .tuple ⟨[]⟩ ∧ o = some (.cells ⟨zed zV 2 (a0 :: a1 :: a2 :: a3 :: a4 :: a5 :: r6)⟩ 53 (0, 0)))) ⟨rfl, rfl⟩
  | 3, _, hl =>
    have g0 : 9 ≤ cs.length := hl
    clear hl
    obtain ⟨a0, r1, rfl, g1⟩ := un1 g0
    obtain ⟨a1, r2, rfl, g2⟩ := un1 g1
    obtain ⟨a2, r3, rfl, g3⟩ := un1 g2
    obtain ⟨a3, r4, rfl, g4⟩ := un1 g3
    obtain ⟨a4, r5, rfl, g5⟩ := un1 g4
    obtain ⟨a5, r6, rfl, g6⟩ := un1 g5
    obtain ⟨a6, r7, rfl, g7⟩ := un1 g6
    obtain ⟨a7, r8, rfl, g8⟩ := un1 g7
    obtain ⟨a8, r9, rfl, g9⟩ := un1 g8
    exact FnOK.ftree (p := 1) SNz_ok mixed Tryz.func16 someSPV (spV3 a0 a1 a2 a3 a4 a5 a6 a7 a8 r9 c (fun v o => v = .tuple ⟨[]⟩ ∧ o = some (.cells ⟨zed zV 3 (a0 :: a1 :: a2 :: a3 :: a4 :: a5 :: a6 :: a7 :: a8 :: r9)⟩ 53 (0, 0)))) ⟨rfl, rfl⟩
  | 4, _, hl =>
    have g0 : 12 ≤ cs.length := hl
    clear hl
    obtain ⟨a0, r1, rfl, g1⟩ := un1 g0
    obtain ⟨a1, r2, rfl, g2⟩ := un1 g1
    obtain ⟨a2, r3, rfl, g3⟩ := un1 g2
    obtain ⟨a3, r4, rfl, g4⟩ := un1 g3
    obtain ⟨a4, r5, rfl, g5⟩ := un1 g4
    obtain ⟨a5, r6, rfl, g6⟩ := un1 g5
    obtain ⟨a6, r7, rfl, g7⟩ := un1 g6
    obtain ⟨a7, r8, rfl, g8⟩ := un1 g7
    obtain ⟨a8, r9, rfl, g9⟩ := un1 g8
    obtain ⟨a9, r10, rfl, g10⟩ := un1 g9
    obtain ⟨a10, r11, rfl, g11⟩ := un1 g10
    obtain ⟨a11, r12, rfl, g12⟩ := un1 g11
    exact FnOK.ftree (p := 1) SNz_ok mixed Tryz.func16 someSPV (spV4 a0 a1 a2 a3 a4 a5 a6 a7 a8 a9 a10 a11 r12 c (fun v o => v = .tuple ⟨[]⟩ ∧ o = some (.cells ⟨zed zV 4 (a0 :: a1 :: a2 :: a3 :: a4 :: a5 :: a6 :: a7 :: a8 :: a9 :: a10 :: a11 :: r12)⟩ 53 (0, 0)))) ⟨rfl, rfl⟩
  | 5, _, hl =>
    have g0 : 15 ≤ cs.length := hl
    clear hl
    obtain ⟨a0, r1, rfl, g1⟩ := un1 g0
    obtain ⟨a1, r2, rfl, g2⟩ := un1 g1
    obtain ⟨a2, r3, rfl, g3⟩ := un1 g2
    obtain ⟨a3, r4, rfl, g4⟩ := un1 g3
    obtain ⟨a4, r5, rfl, g5⟩ := un1 g4
    obtain ⟨a5, r6, rfl, g6⟩ := un1 g5
    obtain ⟨a6, r7, rfl, g7⟩ := un1 g6
    obtain ⟨a7, r8, rfl, g8⟩ := un1 g7
    obtain ⟨a8, r9, rfl, g9⟩ := un1 g8
    obtain ⟨a9, r10, rfl, g10⟩ := un1 g9
    obtain ⟨a10, r11, rfl, g11⟩ := un1 g10
    obtain ⟨a11, r12, rfl, g12⟩ := un1 g11
    obtain ⟨a12, r13, rfl, g13⟩ := un1 g12
    obtain ⟨a13, r14, rfl, g14⟩ := un1 g13
    obtain ⟨a14, r15, rfl, g15⟩ := un1 g14
    exact FnOK.ftree (p := 1) SNz_ok mixed Tryz.func16 someSPV (spV5 a0 a1 a2 a3 a4 a5 a6 a7 a8 a9 a10 a11 a12 a13 a14 r15 c (fun v o => v = .tuple ⟨[]⟩ ∧ o = some (.cells ⟨zed zV 5 (a0 :: a1 :: a2 :: a3 :: a4 :: a5 :: a6 :: a7 :: a8 :: a9 :: a10 :: a11 :: a12 :: a13 :: a14 :: r15)⟩ 53 (0, 0)))) ⟨rfl, rfl⟩
  | n + 6, h, _ => exact absurd h (by omega)
noncomputable def spZV (f : FuncId) (args : Array Value) (h : AH) : Option (Bool × Value × AH) :=
  cond (Nat.beq f 16) (match args with
    | ⟨[.slice (some ⟨b, 0, none⟩) n _]⟩ => match h.get b with
      | some (.cells ⟨cs⟩ t (0, 0)) => some (Nat.beq t 53 && Nat.blt b h.next && okZ 5 3 n cs, .tuple ⟨[]⟩, h.set b (.cells ⟨zed zV n cs⟩ 53 (0, 0)))
      | _ => none
    | _ => none) none
theorem spZV_ok : SpOK spZV := by
  intro f args h v h' hs
  unfold spZV at hs
  obtain ⟨hf, hs2⟩ := cond_some hs
  clear hs
  have := Nat.eq_of_beq_eq_true hf
  subst this
  split at hs2
  · split at hs2
    · rename_i b n c _ cs t hg
      injection hs2 with hs
      injection hs with hb hs
      injection hs with hv hh
      subst hv hh
      simp only [Bool.and_eq_true] at hb
      obtain ⟨⟨b0, b1⟩, b2⟩ := hb
      have b0 := Nat.eq_of_beq_eq_true b0
      subst b0
      obtain ⟨c1, c2, c3⟩ := okZ_iff.1 b2
      exact ⟨upd0 (rest := []) (spV_fn n cs c c1 c2) rfl c3 (zed_p1 (by decide) c3) hg b1, Nat.le_refl _⟩
    · cases hs2
  · cases hs2
end Go.Proofs.YtklednomnpghcaaGreatDoor
